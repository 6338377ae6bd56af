/- The contracts of IsLevels, of the program and of the reference. -/
import Derived.Test.YtojcnncaccnpeaaInts
import Derived.Test.YtojcnncaccnpeaaNum
import Derived.Test.YtojcnncaccnpeaaPlainLevels
namespace Go.Proofs.Ytojcnncaccnpeaa
open Go.RowKit Go.PlainNum

set_option maxRecDepth 100000 in
set_option maxHeartbeats 1000000 in
theorem isLevels_any (A : Option Addr) (n c : Nat) (zs : List Int) (w : World) (h : Rd w w.heap.size A n zs) (hn : (n : Int) ≤ 2000000) :
    Calls Try.prog 12 #[.slice A n c] w fun e w' => e = .returned (.bool (isLev zs)) ∧ Below w.heap.size w w' := by
  have hl := h.1
  by_cases hn0 : n = 0
  · subst hn0
    have H := isLev_len zs (by omega)
    go_enter Try.func12, Try.ntmps12
    go_wp2_with fail
    go_ret
    exact ⟨by rw [H]; rfl, Below.refl _ _⟩
  by_cases hn6 : 6 < n
  · have H := isLev_len zs (by omega)
    have t0 : ((n : Int) == 0) = false := by simp; omega
    have t1 : decide ((n : Int) > 6) = true := by simp; omega
    go_enter Try.func12, Try.ntmps12
    go_wp2_with fail
    go_ret
    exact ⟨by rw [H]; rfl, Below.refl _ _⟩
  obtain ⟨b, off, rfl, hb, hc⟩ := h.2 (by omega)
  have t0 : ((n : Int) == 0) = false := by simp; omega
  have t1 : decide ((n : Int) > 6) = false := by simp; omega
  have c0 := hc 0 (by omega)
  rw [Nat.add_zero] at c0
  obtain ⟨z0, hz0⟩ : ∃ z, zs.getD 0 0 = z := ⟨_, rfl⟩
  rw [hz0] at c0
  by_cases k0 : z0 = 0
  · subst k0
    have t2 : ((0 : Int) != 0) = false := by simp
    have H0 := Lib.hid hz0
    have Hl := Lib.hid hl
    have Hc := Lib.hid hc
    clear hz0 h hl hc
    go_enter Try.func12, Try.ntmps12
    go_wp2_with fail
    go_loopw [3] (fun i wr => ∃ k : Nat, i = .int .i64 (k + 1 : Nat) ∧ k < n ∧ Hid (∀ j, j ≤ k → okAt zs j) ∧ Below w.heap.size w wr)
      (fun i _ => n - (intOf i).toNat)
    case atStart => exact ⟨0, rfl, by omega, Lib.hid (fun j hj => by
      obtain rfl : j = 0 := by omega
      exact ⟨fun _ => H0.out, fun h => absurd h (by omega)⟩), Below.refl _ _⟩
    case round =>
      obtain ⟨k, rfl, hk, E, B⟩ := hrel
      by_cases hlt : k + 1 < n
      · have c1 := (B.cell (p := ⟨b, off + k, none⟩) hb).trans (Hc.out k (by omega))
        have c2 := (B.cell (p := ⟨b, off + (k + 1), none⟩) hb).trans (Hc.out (k + 1) (by omega))
        have L := lev_le zs k E.out
        obtain ⟨x, hx⟩ : ∃ x, zs.getD k 0 = x := ⟨_, rfl⟩
        obtain ⟨y, hy⟩ : ∃ y, zs.getD (k + 1) 0 = y := ⟨_, rfl⟩
        rw [hx] at c1 L
        rw [hy] at c2
        have hx := Lib.hid hx
        have hy := Lib.hid hy
        clear c0 t0 t1 t2
        have bad : ¬ (1 ≤ y ∧ y ≤ x + 1) → Hid (isLev zs = false) := fun hb' => isLev_bad zs (k + 1) (by rw [Hl.out]; exact hlt) (fun ho => hb' (by
          have := ho.2 (by omega)
          rwa [show k + 1 - 1 = k by omega, hx.out, hy.out] at this))
        by_cases y1 : y < 1
        · have u1 : decide (y < 1) = true := decide_eq_true y1
          have H := bad (by omega)
          clear bad
          go_wp2_with fail
          go_quiet (fail)
          go_wp2_with fail
          go_ret
          exact ⟨by rw [H.out]; rfl, bel_drewN B _⟩
        · have u1 : decide (y < 1) = false := decide_eq_false y1
          by_cases y2 : x + 1 < y
          · have u2 : decide (y > x + 1) = true := decide_eq_true y2
            have H := bad (by omega)
            clear bad
            go_wp2_with fail
            go_quiet (fail)
            go_wp2_with fail
            go_ret
            exact ⟨by rw [H.out]; rfl, bel_drewN B _⟩
          · have u2 : decide (y > x + 1) = false := decide_eq_false y2
            have ok : Hid (∀ j, j ≤ k + 1 → okAt zs j) := Lib.hid (fun j hj => by
              rcases Nat.lt_or_ge k j with h1 | h1
              · obtain rfl : j = k + 1 := by omega
                refine ⟨fun h => absurd h (by omega), fun _ => ?_⟩
                rw [show k + 1 - 1 = k by omega, hx.out, hy.out]
                omega
              · exact E.out j h1)
            clear bad
            go_wp2_with fail
            go_quiet (fail)
            go_wp2_with fail
            go_roundw
            case rel => exact ⟨k + 1, by go_num, by omega, ok, bel_drewN B _⟩
            case measure => simp [intOf]; omega
      · obtain rfl : n = k + 1 := by omega
        have H := isLev_yes zs (by rw [Hl.out]; omega) (by rw [Hl.out]; omega) (fun j hj => E.out j (by rw [Hl.out] at hj; omega))
        go_wp2_with fail
        go_ret
        exact ⟨by rw [H]; rfl, B⟩
  · have t2 : (z0 != 0) = true := by simpa using k0
    have H := isLev_bad zs 0 (by omega) (fun ho => k0 (by rw [← hz0]; exact ho.1 rfl))
    clear hz0 hc h
    go_enter Try.func12, Try.ntmps12
    go_wp2_with fail
    go_ret
    exact ⟨by rw [H]; rfl, Below.refl _ _⟩

theorem quiet_lt {P : Program} {f : FuncId} {args : Array Value} {w : World} {n : Nat} {v : Value}
    (h : Calls P f args (w.drewN n) fun e w' => e = .returned v ∧ w.drewN n = w') : Calls P f args (w.drewN n) fun e w'' => e = .returned v ∧ ∃ m, w'' = w.drewN m :=
  h.mono fun _ _ ⟨he, hm⟩ => ⟨he, n, hm.symm⟩
theorem l1In_eq (n a b : Int) (r : Bool) (h : decide (a ≤ n ∧ n ≤ b) = r) (w : World) :
    Calls Try.prog 14 #[.int .i64 n, .int .i64 a, .int .i64 b] w fun e w' => e = .returned (.bool r) ∧ w = w' := by
  subst h
  exact l1In_any n a b w

set_option maxRecDepth 100000 in
set_option maxHeartbeats 1000000 in
theorem sisLevels_any (A : Option Addr) (n c : Nat) (zs : List Int) (w : World) (h : Rd w w.heap.size A n zs) (hn : (n : Int) ≤ 2000000) :
    Calls Try.prog 10 #[.slice A n c] w fun e w' => e = .returned (.bool (isLev zs)) ∧ Below w.heap.size w w' := by
  have Hl := Lib.hid h.1
  have H := Lib.hid h
  clear h
  go_enter Try.func10, Try.ntmps10
  go_wp2_with fail
  go_loopw [3] (fun i wr => ∃ k : Nat, i = .int .i64 k ∧ k ≤ n ∧ Hid (∀ j, j < k → okAt zs j) ∧ Below w.heap.size w wr)
    (fun i _ => n - (intOf i).toNat)
  case atStart => exact ⟨0, rfl, by omega, Lib.hid (fun j hj => absurd hj (by omega)), Below.refl _ _⟩
  case round =>
    obtain ⟨k, rfl, hk, E, B⟩ := hrel
    by_cases hlt : k < n
    · obtain ⟨b, off, rfl, hb, hc⟩ := H.out.2 (by omega)
      have Hc := Lib.hid hc
      clear hc H
      by_cases k0 : k = 0
      · subst k0
        have c1 := (B.cell (p := ⟨b, off, none⟩) hb).trans (Hc.out 0 (by omega))
        obtain ⟨y, hy⟩ : ∃ y, zs.getD 0 0 = y := ⟨_, rfl⟩
        rw [hy] at c1
        have hy := Lib.hid hy
        by_cases y0 : y = 0
        · subst y0
          have u0 : ((0 : Int) == 0) = true := by simp
          have u2 : decide ((0 : Int) > 0) = false := by simp
          have ok : Hid (∀ j, j < 0 + 1 → okAt zs j) := Lib.hid (fun j hj => by
            obtain rfl : j = 0 := by omega
            exact ⟨fun _ => hy.out, fun h => absurd h (by omega)⟩)
          go_wp2_with fail
          go_quiet (fail)
          go_wp2_with fail
          go_roundw
          case rel => exact ⟨1, by go_num, by omega, ok, bel_drewN B _⟩
          case measure => simp [intOf]; omega
        · have u0 : (y == 0) = false := by simpa using y0
          have bad := isLev_bad zs 0 (by rw [Hl.out]; omega) (fun ho => y0 (by rw [← hy.out]; exact ho.1 rfl))
          go_wp2_with fail
          go_quiet (fail)
          go_wp2_with fail
          go_ret
          exact ⟨by rw [bad]; rfl, bel_drewN B _⟩
      · obtain ⟨k, rfl⟩ : ∃ k', k = k' + 1 := ⟨k - 1, by omega⟩
        have c1 := (B.cell (p := ⟨b, off + k, none⟩) hb).trans (Hc.out k (by omega))
        have c2 := (B.cell (p := ⟨b, off + (k + 1), none⟩) hb).trans (Hc.out (k + 1) (by omega))
        have L := lev_le zs k (fun j hj => E.out j (by omega))
        obtain ⟨x, hx⟩ : ∃ x, zs.getD k 0 = x := ⟨_, rfl⟩
        obtain ⟨y, hy⟩ : ∃ y, zs.getD (k + 1) 0 = y := ⟨_, rfl⟩
        rw [hx] at c1 L
        rw [hy] at c2
        have hx := Lib.hid hx
        have hy := Lib.hid hy
        have bad : ¬ (1 ≤ y ∧ y ≤ x + 1) → Hid (isLev zs = false) := fun hb' => isLev_bad zs (k + 1) (by rw [Hl.out]; exact hlt) (fun ho => hb' (by
          have := ho.2 (by omega)
          rwa [show k + 1 - 1 = k by omega, hx.out, hy.out] at this))
        have v1 : ((k : Int) + 1 == 0) = false := by rw [beq_eq_false_iff_ne]; omega
        have v2 : decide ((k : Int) + 1 > 0) = true := decide_eq_true (by omega)
        by_cases y0 : y = 0
        · subst y0
          have u0 : ((0 : Int) == 0) = true := by simp
          have N := bad (by omega)
          clear bad
          go_wp2_with fail
          go_quiet (fail)
          go_wp2_with fail
          go_ret
          exact ⟨by rw [N.out]; rfl, bel_drewN B _⟩
        · have u0 : (y == 0) = false := by simpa using y0
          by_cases y2 : 1 ≤ y ∧ y ≤ x + 1
          · have C := Lib.hid (decide_eq_true y2)
            have ok : Hid (∀ j, j < k + 1 + 1 → okAt zs j) := Lib.hid (fun j hj => by
              rcases Nat.lt_or_ge k j with h1 | h1
              · obtain rfl : j = k + 1 := by omega
                refine ⟨fun h => absurd h (by omega), fun _ => ?_⟩
                rw [show k + 1 - 1 = k by omega, hx.out, hy.out]
                omega
              · exact E.out j (by omega))
            clear bad y2
            go_wp2_with fail
            go_quiet ((go_at_call 14; exact quiet_lt (l1In_eq _ _ _ true C.out _)))
            go_wp2_with fail
            go_roundw
            case rel => exact ⟨k + 1 + 1, by go_num, by omega, ok, bel_drewN B _⟩
            case measure => simp [intOf]; omega
          · have C := Lib.hid (decide_eq_false y2)
            have N := bad y2
            clear bad y2
            go_wp2_with fail
            go_quiet ((go_at_call 14; exact quiet_lt (l1In_eq _ _ _ false C.out _)))
            go_wp2_with fail
            go_ret
            exact ⟨by rw [N.out]; rfl, bel_drewN B _⟩
    · obtain rfl : k = n := by omega
      have C : Hid (decide ((1 : Int) ≤ (k : Int) ∧ (k : Int) ≤ 6) = isLev zs) := by
        by_cases h16 : 1 ≤ zs.length ∧ zs.length ≤ 6
        · have := isLev_yes zs h16.1 h16.2 (fun j hj => E.out j (by rw [Hl.out] at hj; exact hj))
          rw [this, ← Hl.out]
          exact decide_eq_true (by omega)
        · have := isLev_len zs h16
          rw [this, ← Hl.out]
          exact decide_eq_false (by omega)
      go_wp2_with (go_at_call 14; refine (l1In_eq _ _ _ _ C.out _).mono ?_; rintro e w' ⟨rfl, rfl⟩)
      go_ret
      exact ⟨rfl, B⟩
end Go.Proofs.Ytojcnncaccnpeaa
