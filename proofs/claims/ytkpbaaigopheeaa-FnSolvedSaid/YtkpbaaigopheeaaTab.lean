/- Slices of slices of integers that are read; whether they have the form of a system. -/
import Derived.Test.YtkpbaaigopheeaaAll
namespace Go.Proofs.Ytkpbaaigopheeaa
open Go.RowKit Go.PlainNum

/-- n slices of integers read as the rows Z, below block B -/
def RdT (w : World) (B : Nat) (A : Option Addr) (n : Nat) (Z : Nat → List Int) : Prop :=
  0 < n → ∃ b off, A = some ⟨b, off, none⟩ ∧ b < B ∧ ∀ j, j < n → ∃ X c, w.cell? ⟨b, off + j, none⟩ = some (.slice X (Z j).length c) ∧ Rd w B X (Z j).length (Z j)

theorem RdT.below {w w' : World} {B C n : Nat} {A : Option Addr} {Z : Nat → List Int} (h : RdT w B A n Z) (hb : Below C w w') (hC : B ≤ C) : RdT w' B A n Z := by
  intro hn
  obtain ⟨b, off, e, hB, hc⟩ := h hn
  refine ⟨b, off, e, hB, fun j hj => ?_⟩
  obtain ⟨X, c, h1, h2⟩ := hc j hj
  exact ⟨X, c, (hb.cell (p := ⟨b, off + j, none⟩) (show b < C by omega)).trans h1, h2.below hb hC⟩
theorem RdT.mono {w : World} {B C n : Nat} {A : Option Addr} {Z : Nat → List Int} (h : RdT w B A n Z) (hC : B ≤ C) : RdT w C A n Z := by
  intro hn
  obtain ⟨b, off, e, hB, hc⟩ := h hn
  refine ⟨b, off, e, by omega, fun j hj => ?_⟩
  obtain ⟨X, c, h1, h2⟩ := hc j hj
  exact ⟨X, c, h1, h2.mono hC⟩

/-- what the row's reading gives of a slice of slices of integers that came in -/
def IsTab (w : World) (A : Option Addr) (n : Nat) (Z : Nat → List Int) : Prop := RdT w w.heap.size A n Z ∧ n ≤ maxLen ∧ ∀ j, j < n → (Z j).length ≤ maxLen
theorem isTab_nil (w : World) (Z : Nat → List Int) : IsTab w none 0 Z := ⟨fun h => absurd h (by omega), by omega, fun j hj => absurd hj (by omega)⟩
theorem isTab_rows {w : World} {a : Addr} {n cap : Nat} {A : Nat → Option Addr} {L C : Nat → Nat} {Z : Nat → List Int} (hl : n ≤ cap) (hm : cap ≤ maxLen)
    (h : ∀ r, r < cap → w.cell? (a.add r) = some (.slice (A r) (L r) (C r)) ∧ L r ≤ C r ∧ C r ≤ maxLen ∧ (Z r).length = C r ∧ (A r = none → C r = 0) ∧ ∀ a', A r = some a' → ∀ c, c < C r → w.cell? (a'.add c) = some (.int .i64 ((Z r).getD c 0))) :
    IsTab w (some a) n (fun r => (Z r).take (L r)) := by
  have hlen : ∀ j, j < n → ((Z j).take (L j)).length = L j := fun j hj => by
    obtain ⟨_, h2, _, h4, _⟩ := h j (by omega)
    simp; omega
  refine ⟨fun hn => ?_, by omega, fun j hj => ?_⟩
  · obtain ⟨b, off, spot⟩ := a
    have hc0 := (h 0 (by omega)).1
    have hspot : spot = none := by simpa [Addr.add] using World.cell?_spot hc0
    subst hspot
    refine ⟨b, off, rfl, by simpa [Addr.add] using World.block_lt_of_cell? _ _ hc0, fun j hj => ?_⟩
    obtain ⟨h1, h2, h3, h4, h5, h6⟩ := h j (by omega)
    refine ⟨A j, C j, ?_, ?_⟩
    · rw [hlen j hj]; rw [Addr.add_lit] at h1; exact h1
    · rw [hlen j hj]
      refine ⟨hlen j hj, fun hL => ?_⟩
      cases hA : A j with
      | none => have := h5 hA; omega
      | some a' =>
        obtain ⟨b', off', spot'⟩ := a'
        have hc' := h6 _ hA 0 (by omega)
        have hspot' : spot' = none := by simpa [Addr.add] using World.cell?_spot hc'
        subst hspot'
        refine ⟨b', off', rfl, by simpa [Addr.add] using World.block_lt_of_cell? _ _ hc', fun i hi => ?_⟩
        have := h6 _ hA i (by omega)
        rw [Addr.add_lit] at this
        rw [this]
        simp [List.getD, hi]
  · rw [hlen j hj]
    obtain ⟨_, h2, h3, _⟩ := h j (by omega)
    omega

/-- whether rows have the form of a system -/
def sysOk (n : Nat) (Z : Nat → List Int) : Bool := decide (0 < n ∧ n ≤ 40 ∧ ∀ j, j < n → (Z j).length = (Z 0).length ∧ 0 < (Z j).length ∧ (Z j).length ≤ 40 ∧ allNum (Z j) = true)
theorem sysOk_yes {n : Nat} {Z : Nat → List Int} (h0 : 0 < n) (h1 : n ≤ 40) (h : ∀ j, j < n → (Z j).length = (Z 0).length ∧ 0 < (Z j).length ∧ (Z j).length ≤ 40 ∧ allNum (Z j) = true) : sysOk n Z = true := decide_eq_true ⟨h0, h1, h⟩
theorem sysOk_no1 {n : Nat} {Z : Nat → List Int} (h : ¬ (0 < n ∧ n ≤ 40)) : sysOk n Z = false := decide_eq_false fun q => h ⟨q.1, q.2.1⟩
theorem sysOk_no2 {n : Nat} {Z : Nat → List Int} (j : Nat) (hj : j < n) (h : ¬ ((Z j).length = (Z 0).length ∧ 0 < (Z j).length ∧ (Z j).length ≤ 40 ∧ allNum (Z j) = true)) : sysOk n Z = false := decide_eq_false fun q => h (q.2.2 j hj)
theorem sysOk_is {n : Nat} {Z : Nat → List Int} (h : sysOk n Z = true) : 0 < n ∧ n ≤ 40 ∧ ∀ j, j < n → (Z j).length = (Z 0).length ∧ 0 < (Z j).length ∧ (Z j).length ≤ 40 ∧ allNum (Z j) = true := of_decide_eq_true h
attribute [irreducible] sysOk

theorem allNumbers_eq (B : Nat) (A : Option Addr) (n c : Nat) (zs : List Int) (r : Bool) (hr : allNum zs = r) (w : World) (h : Rd w B A n zs) (hn : (n : Int) ≤ 4000000) :
    Calls Try.prog 28 #[.slice A n c] w fun e w' => e = .returned (.bool r) ∧ w = w' := by
  subst hr
  exact allNumbers_any B A n c zs w h hn
theorem l1All_eq (B : Nat) (A : Option Addr) (n c : Nat) (zs : List Int) (r : Bool) (hr : allNum zs = r) (w : World) (h : Rd w B A n zs) (hn : (n : Int) ≤ 4000000) :
    Calls Try.prog 35 #[.slice A n c] w fun e w' => e = .returned (.bool r) ∧ w = w' := by
  subst hr
  exact l1All_any B A n c zs w h hn
theorem l1In_is (n a b : Int) (r : Bool) (h : decide (a ≤ n ∧ n ≤ b) = r) (w : World) :
    Calls Try.prog 42 #[.int .i64 n, .int .i64 a, .int .i64 b] w fun e w' => e = .returned (.bool r) ∧ w = w' := by
  subst h
  exact l1In_any n a b w
theorem quiet_tab {P : Program} {f : FuncId} {args : Array Value} {w : World} {n : Nat} {v : Value}
    (h : Calls P f args (w.drewN n) fun e w' => e = .returned v ∧ w.drewN n = w') : Calls P f args (w.drewN n) fun e w'' => e = .returned v ∧ ∃ m, w'' = w.drewN m :=
  h.mono fun _ _ ⟨he, hm⟩ => ⟨he, n, hm.symm⟩

set_option maxRecDepth 100000 in
set_option maxHeartbeats 2000000 in
theorem systemOk_any (B : Nat) (A : Option Addr) (n c : Nat) (Z : Nat → List Int) (w : World) (h : RdT w B A n Z) (hL : ∀ j, j < n → ((Z j).length : Int) ≤ 4000000) (hn : (n : Int) ≤ 4000000) :
    Calls Try.prog 27 #[.slice A n c] w fun e w' => e = .returned (.bool (sysOk n Z)) ∧ w = w' := by
  by_cases hn0 : 0 < n ∧ n ≤ 40
  case neg =>
    have R := Lib.hid (sysOk_no1 (Z := Z) hn0)
    by_cases hz : n = 0
    · subst hz
      clear hn0 h hL
      go_enter Try.func27, Try.ntmps27
      go_wp2_with fail
      go_ret
      exact ⟨by rw [R.out]; rfl, rfl⟩
    · have t1 : ((n : Int) == 0) = false := by rw [beq_eq_false_iff_ne]; omega
      have t2 : decide ((n : Int) > 40) = true := decide_eq_true (by omega)
      clear hn0 h hL
      go_enter Try.func27, Try.ntmps27
      go_wp2_with fail
      go_ret
      exact ⟨by rw [R.out]; rfl, rfl⟩
  obtain ⟨hn1, hn2⟩ := hn0
  obtain ⟨b, off, rfl, hb, hc⟩ := h hn1
  have t1 : ((n : Int) == 0) = false := by rw [beq_eq_false_iff_ne]; omega
  have t2 : decide ((n : Int) > 40) = false := decide_eq_false (by omega)
  obtain ⟨X0, k0, c0, H0⟩ := hc 0 hn1
  rw [Nat.add_zero] at c0
  have l0 := hL 0 hn1
  obtain ⟨y, hy⟩ : ∃ y, (Z 0).length = y := ⟨_, rfl⟩
  rw [hy] at c0 l0
  have hy := Lib.hid hy
  have hc := Lib.hid hc
  have hL := Lib.hid hL
  clear h H0
  go_enter Try.func27, Try.ntmps27
  go_wp2_with fail
  go_loop [15] (fun i => ∃ k : Nat, i = .int .i64 k ∧ k ≤ n ∧ Hid (∀ j, j < k → (Z j).length = (Z 0).length ∧ 0 < (Z j).length ∧ (Z j).length ≤ 40 ∧ allNum (Z j) = true)) (fun i => n - (intOf i).toNat)
  case atStart => exact ⟨0, rfl, Nat.zero_le _, Lib.hid (fun j hj => absurd hj (by omega))⟩
  case round =>
    obtain ⟨k, rfl, hk, E⟩ := hrel
    by_cases hlt : k < n
    · obtain ⟨X, kc, c1, H1⟩ := hc.out k hlt
      have l1 := hL.out k hlt
      obtain ⟨x, hx⟩ : ∃ x, (Z k).length = x := ⟨_, rfl⟩
      rw [hx] at c1 l1 H1
      have hx := Lib.hid hx
      have H1 := Lib.hid H1
      by_cases hxy : x = y
      case neg =>
        have t3 : ((x : Int) != (y : Int)) = true := by rw [bne_iff_ne]; omega
        have R := Lib.hid (sysOk_no2 (Z := Z) k hlt (fun q => hxy (by rw [← hx.out, ← hy.out]; exact q.1)))
        go_wp2_with fail
        go_ret
        exact ⟨by rw [R.out]; rfl, rfl⟩
      subst hxy
      have t3 : ((x : Int) != (x : Int)) = false := by rw [bne_eq_false_iff_eq]
      by_cases hx0 : x = 0
      · have t4 : ((x : Int) == 0) = true := by rw [beq_iff_eq]; omega
        have R := Lib.hid (sysOk_no2 (Z := Z) k hlt (fun q => by have := q.2.1; rw [hx.out] at this; omega))
        go_wp2_with fail
        go_ret
        exact ⟨by rw [R.out]; rfl, rfl⟩
      have t4 : ((x : Int) == 0) = false := by rw [beq_eq_false_iff_ne]; omega
      by_cases hx4 : x ≤ 40
      case neg =>
        have t5 : decide ((x : Int) > 40) = true := decide_eq_true (by omega)
        have R := Lib.hid (sysOk_no2 (Z := Z) k hlt (fun q => by have := q.2.2.1; rw [hx.out] at this; omega))
        go_wp2_with fail
        go_ret
        exact ⟨by rw [R.out]; rfl, rfl⟩
      have t5 : decide ((x : Int) > 40) = false := decide_eq_false (by omega)
      obtain ⟨r, hr⟩ : ∃ r, allNum (Z k) = r := ⟨_, rfl⟩
      have HR := Lib.hid hr
      cases r with
      | false =>
        have R := Lib.hid (sysOk_no2 (Z := Z) k hlt (fun q => by have := q.2.2.2; rw [hr] at this; exact absurd this (by decide)))
        clear hr
        go_wp2_with (go_at_call 28; refine (allNumbers_eq B _ _ _ (Z k) _ HR.out _ H1.out (by omega)).mono ?_; rintro e w' ⟨rfl, rfl⟩)
        go_ret
        exact ⟨by rw [R.out]; rfl, rfl⟩
      | true =>
        have E' : Hid (∀ j, j < k + 1 → (Z j).length = (Z 0).length ∧ 0 < (Z j).length ∧ (Z j).length ≤ 40 ∧ allNum (Z j) = true) := Lib.hid (fun j hj => by
          rcases Nat.lt_or_ge j k with h1 | h1
          · exact E.out j h1
          · obtain rfl : j = k := by omega
            exact ⟨by rw [hx.out, hy.out], by rw [hx.out]; omega, by rw [hx.out]; omega, hr⟩)
        clear hr
        go_wp2_with (go_at_call 28; refine (allNumbers_eq B _ _ _ (Z k) _ HR.out _ H1.out (by omega)).mono ?_; rintro e w' ⟨rfl, rfl⟩)
        go_round
        case rel => exact ⟨k + 1, by go_num, by omega, E'⟩
        case measure => simp [intOf]; omega
    · obtain rfl : k = n := by omega
      have R := Lib.hid (sysOk_yes hn1 hn2 E.out)
      go_wp2_with fail
      go_ret
      exact ⟨by rw [R.out]; rfl, rfl⟩

set_option maxRecDepth 100000 in
set_option maxHeartbeats 2000000 in
theorem l1Rows_any (B : Nat) (A : Option Addr) (n c : Nat) (Z : Nat → List Int) (w : World) (h : RdT w B A n Z) (hL : ∀ j, j < n → ((Z j).length : Int) ≤ 4000000) (hn : (n : Int) ≤ 4000000) :
    Calls Try.prog 32 #[.slice A n c] w fun e w' => e = .returned (.bool (sysOk n Z)) ∧ ∃ m, w' = w.drewN m := by
  by_cases hn0 : 0 < n ∧ n ≤ 40
  case neg =>
    have R := Lib.hid (sysOk_no1 (Z := Z) hn0)
    have D := Lib.hid (decide_eq_false (show ¬ ((1 : Int) ≤ n ∧ (n : Int) ≤ 40) by omega))
    clear hn0 h hL
    go_enter Try.func32, Try.ntmps32
    go_wp2_with (go_at_call 42; refine (l1In_is _ _ _ _ D.out _).mono ?_; rintro e w' ⟨rfl, rfl⟩)
    go_ret
    exact ⟨by rw [R.out]; rfl, 0, rfl⟩
  obtain ⟨hn1, hn2⟩ := hn0
  obtain ⟨b, off, rfl, hb, hc⟩ := h hn1
  have D := Lib.hid (decide_eq_true (show ((1 : Int) ≤ n ∧ (n : Int) ≤ 40) by omega))
  obtain ⟨X0, k0, c0, H0⟩ := hc 0 hn1
  rw [Nat.add_zero] at c0
  have l0 := hL 0 hn1
  obtain ⟨y, hy⟩ : ∃ y, (Z 0).length = y := ⟨_, rfl⟩
  rw [hy] at c0 l0
  have hy := Lib.hid hy
  have hc := Lib.hid hc
  have hL := Lib.hid hL
  clear h H0
  by_cases hy0 : 1 ≤ y ∧ y ≤ 40
  case neg =>
    have D2 := Lib.hid (decide_eq_false (show ¬ ((1 : Int) ≤ y ∧ (y : Int) ≤ 40) by omega))
    have R := Lib.hid (sysOk_no2 (Z := Z) 0 hn1 (fun q => by have h1 := q.2.1; have h2 := q.2.2.1; rw [hy.out] at h1 h2; omega))
    go_enter Try.func32, Try.ntmps32
    go_wp2_with (first | (go_at_call 42; with_reducible refine (l1In_is n 1 40 _ D.out _).mono ?_; rintro e w' ⟨rfl, rfl⟩) | (go_at_call 42; with_reducible refine (l1In_is y 1 40 _ D2.out _).mono ?_; rintro e w' ⟨rfl, rfl⟩))
    go_ret
    exact ⟨by rw [R.out]; rfl, 0, rfl⟩
  have D2 := Lib.hid (decide_eq_true (show ((1 : Int) ≤ y ∧ (y : Int) ≤ 40) by omega))
  go_enter Try.func32, Try.ntmps32
  go_wp2_with (first | (go_at_call 42; with_reducible refine (l1In_is n 1 40 _ D.out _).mono ?_; rintro e w' ⟨rfl, rfl⟩) | (go_at_call 42; with_reducible refine (l1In_is y 1 40 _ D2.out _).mono ?_; rintro e w' ⟨rfl, rfl⟩))
  go_loopw [3] (fun i wr => ∃ k : Nat, i = .int .i64 k ∧ k ≤ n ∧ Hid (∀ j, j < k → (Z j).length = (Z 0).length ∧ 0 < (Z j).length ∧ (Z j).length ≤ 40 ∧ allNum (Z j) = true) ∧ Hid (∃ m, wr = w.drewN m)) (fun i _ => n - (intOf i).toNat)
  case atStart => exact ⟨0, rfl, Nat.zero_le _, Lib.hid (fun j hj => absurd hj (by omega)), Lib.hid ⟨0, rfl⟩⟩
  case round =>
    obtain ⟨k, rfl, hk, E, HW⟩ := hrel
    rename_i wr _
    have d0 : wr.cell? ⟨b, off, none⟩ = some (.slice X0 y k0) := by obtain ⟨m, hm⟩ := HW.out; rw [hm]; exact c0
    by_cases hlt : k < n
    · obtain ⟨X, kc, c1, H1⟩ := hc.out k hlt
      have l1 := hL.out k hlt
      obtain ⟨x, hx⟩ : ∃ x, (Z k).length = x := ⟨_, rfl⟩
      rw [hx] at c1 l1 H1
      have hx := Lib.hid hx
      have H1 : Hid (∀ a, Rd (wr.drewN a) B X x (Z k)) := Lib.hid (fun a => by obtain ⟨m, hm⟩ := HW.out; rw [hm]; exact H1.below (bel_drewN (bel_drewN (Below.refl B w) m) a) (Nat.le_refl _))
      have d1 : wr.cell? ⟨b, off + k, none⟩ = some (.slice X x kc) := by obtain ⟨m, hm⟩ := HW.out; rw [hm]; exact c1
      by_cases hxy : x = y
      case neg =>
        have t3 : ((x : Int) != (y : Int)) = true := by rw [bne_iff_ne]; omega
        have R := Lib.hid (sysOk_no2 (Z := Z) k hlt (fun q => hxy (by rw [← hx.out, ← hy.out]; exact q.1)))
        go_wp2_with fail
        go_quiet (fail)
        go_wp2_with fail
        go_ret
        exact ⟨by rw [R.out]; rfl, by obtain ⟨m, hm⟩ := HW.out; rw [hm]; exact ⟨_, World.drewN_drewN _ _ _⟩⟩
      subst hxy
      have t3 : ((x : Int) != (x : Int)) = false := by rw [bne_eq_false_iff_eq]
      obtain ⟨r, hr⟩ : ∃ r, allNum (Z k) = r := ⟨_, rfl⟩
      have HR := Lib.hid hr
      cases r with
      | false =>
        have R := Lib.hid (sysOk_no2 (Z := Z) k hlt (fun q => by have := q.2.2.2; rw [hr] at this; exact absurd this (by decide)))
        clear hr
        go_wp2_with fail
        go_quiet ((go_at_call 35; exact quiet_tab (l1All_eq B _ _ _ (Z k) _ HR.out _ (H1.out _) (by omega))))
        go_wp2_with fail
        go_ret
        exact ⟨by rw [R.out]; rfl, by obtain ⟨m, hm⟩ := HW.out; rw [hm]; exact ⟨_, World.drewN_drewN _ _ _⟩⟩
      | true =>
        have E' : Hid (∀ j, j < k + 1 → (Z j).length = (Z 0).length ∧ 0 < (Z j).length ∧ (Z j).length ≤ 40 ∧ allNum (Z j) = true) := Lib.hid (fun j hj => by
          rcases Nat.lt_or_ge j k with h1 | h1
          · exact E.out j h1
          · obtain rfl : j = k := by omega
            exact ⟨by rw [hx.out, hy.out], by rw [hx.out]; omega, by rw [hx.out]; omega, hr⟩)
        clear hr
        go_wp2_with fail
        go_quiet ((go_at_call 35; exact quiet_tab (l1All_eq B _ _ _ (Z k) _ HR.out _ (H1.out _) (by omega))))
        go_wp2_with fail
        go_roundw
        case rel => exact ⟨k + 1, by go_num, by omega, E', Lib.hid (by obtain ⟨m, hm⟩ := HW.out; rw [hm]; exact ⟨_, World.drewN_drewN _ _ _⟩)⟩
        case measure => simp [intOf]; omega
    · obtain rfl : k = n := by omega
      have R := Lib.hid (sysOk_yes hn1 hn2 E.out)
      go_wp2_with fail
      go_ret
      exact ⟨by rw [R.out]; rfl, HW.out⟩
end Go.Proofs.Ytkpbaaigopheeaa
