/- The contracts of the functions that ask whether all elements of a slice are numbers. -/
import Derived.Test.YtkpbaaigopheeaaInts
import Derived.Test.YtkpbaaigopheeaaNum
namespace Go.Proofs.Ytkpbaaigopheeaa
open Go.RowKit Go.PlainNum

/-- all are numbers -/
def allNum (zs : List Int) : Bool := zs.all fun z => decide (0 ≤ z ∧ z < 1000000271)
theorem allNum_no (zs : List Int) (k : Nat) (hk : k < zs.length) (h : ¬ (0 ≤ zs.getD k 0 ∧ zs.getD k 0 < 1000000271)) : allNum zs = false := by
  unfold allNum
  rw [List.all_eq_false]
  refine ⟨zs[k], List.getElem_mem hk, ?_⟩
  have : zs.getD k 0 = zs[k] := by simp [List.getD, List.getElem?_eq_getElem hk]
  rw [this] at h
  simpa using h
theorem allNum_yes (zs : List Int) (h : ∀ j, j < zs.length → 0 ≤ zs.getD j 0 ∧ zs.getD j 0 < 1000000271) : allNum zs = true := by
  unfold allNum
  rw [List.all_eq_true]
  intro z hz
  obtain ⟨j, hj, rfl⟩ := List.getElem_of_mem hz
  have := h j hj
  rw [show zs.getD j 0 = zs[j] by simp [List.getD, List.getElem?_eq_getElem hj]] at this
  simpa using this
theorem allNum_get (zs : List Int) (h : allNum zs = true) (j : Nat) (hj : j < zs.length) : 0 ≤ zs.getD j 0 ∧ zs.getD j 0 < 1000000271 := by
  unfold allNum at h
  rw [List.all_eq_true] at h
  have := h _ (List.getElem_mem hj)
  rw [show zs.getD j 0 = zs[j] by simp [List.getD, List.getElem?_eq_getElem hj]]
  simpa using this
attribute [irreducible] allNum
theorem isNum_eq (n : Int) (r : Bool) (h : decide (0 ≤ n ∧ n < 1000000271) = r) (w : World) :
    Calls Try.prog 38 #[.int .i64 n] w fun e w' => e = .returned (.bool r) ∧ w = w' := by
  subst h
  exact isNumber_any n w
theorem sisNum_eq (n : Int) (r : Bool) (h : decide (0 ≤ n ∧ n < 1000000271) = r) (w : World) :
    Calls Try.prog 45 #[.int .i64 n] w fun e w' => e = .returned (.bool r) ∧ w = w' := by
  subst h
  exact sisNumber_any n w

set_option maxRecDepth 100000 in
set_option maxHeartbeats 1000000 in
theorem allNumbers_any (B : Nat) (A : Option Addr) (n c : Nat) (zs : List Int) (w : World) (h : Rd w B A n zs) (hn : (n : Int) ≤ 4000000) :
    Calls Try.prog 28 #[.slice A n c] w fun e w' => e = .returned (.bool (allNum zs)) ∧ w = w' := by
  have H := Lib.hid h
  clear h
  go_enter Try.func28, Try.ntmps28
  go_wp2_with fail
  go_loop [7] (fun i => ∃ k : Nat, i = .int .i64 k ∧ k ≤ n ∧ Hid (∀ j, j < k → 0 ≤ zs.getD j 0 ∧ zs.getD j 0 < 1000000271)) (fun i => n - (intOf i).toNat)
  case atStart => exact ⟨0, rfl, Nat.zero_le _, Lib.hid (fun j hj => absurd hj (by omega))⟩
  case round =>
    obtain ⟨k, rfl, hk, E⟩ := hrel
    by_cases hlt : k < n
    · obtain ⟨b, off, rfl, _, hc⟩ := H.out.2 (by omega)
      have c1 := hc k hlt
      obtain ⟨x, hx⟩ : ∃ x, zs.getD k 0 = x := ⟨_, rfl⟩
      rw [hx] at c1
      have hx := Lib.hid hx
      clear hc
      by_cases hx1 : 0 ≤ x ∧ x < 1000000271
      · have D := Lib.hid (decide_eq_true hx1)
        have E' : Hid (∀ j, j < k + 1 → 0 ≤ zs.getD j 0 ∧ zs.getD j 0 < 1000000271) := Lib.hid (fun j hj => by
          rcases Nat.lt_or_ge j k with h1 | h1
          · exact E.out j h1
          · obtain rfl : j = k := by omega
            rw [hx.out]; exact hx1)
        clear hx1
        go_wp2_with (go_at_call 38; refine (isNum_eq _ _ D.out _).mono ?_; rintro e w' ⟨rfl, rfl⟩)
        go_round
        case rel => exact ⟨k + 1, by go_num, by omega, E'⟩
        case measure => simp [intOf]; omega
      · have D := Lib.hid (decide_eq_false hx1)
        have R := Lib.hid <| allNum_no zs k (by rw [H.out.1]; exact hlt) (by rw [hx.out]; exact hx1)
        clear hx1
        go_wp2_with (go_at_call 38; refine (isNum_eq _ _ D.out _).mono ?_; rintro e w' ⟨rfl, rfl⟩)
        go_ret
        exact ⟨by rw [R.out]; rfl, rfl⟩
    · obtain rfl : k = n := by omega
      have R := Lib.hid <| allNum_yes zs (fun j hj => E.out j (by rw [H.out.1] at hj; exact hj))
      go_wp2_with fail
      go_ret
      exact ⟨by rw [R.out]; rfl, rfl⟩

set_option maxRecDepth 100000 in
set_option maxHeartbeats 1000000 in
theorem l1All_any (B : Nat) (A : Option Addr) (n c : Nat) (zs : List Int) (w : World) (h : Rd w B A n zs) (hn : (n : Int) ≤ 4000000) :
    Calls Try.prog 35 #[.slice A n c] w fun e w' => e = .returned (.bool (allNum zs)) ∧ w = w' := by
  have H := Lib.hid h
  clear h
  go_enter Try.func35, Try.ntmps35
  go_wp2_with fail
  go_loop [3] (fun i => ∃ k : Nat, i = .int .i64 k ∧ k ≤ n ∧ Hid (∀ j, j < k → 0 ≤ zs.getD j 0 ∧ zs.getD j 0 < 1000000271)) (fun i => n - (intOf i).toNat)
  case atStart => exact ⟨0, rfl, Nat.zero_le _, Lib.hid (fun j hj => absurd hj (by omega))⟩
  case round =>
    obtain ⟨k, rfl, hk, E⟩ := hrel
    by_cases hlt : k < n
    · obtain ⟨b, off, rfl, _, hc⟩ := H.out.2 (by omega)
      have c1 := hc k hlt
      obtain ⟨x, hx⟩ : ∃ x, zs.getD k 0 = x := ⟨_, rfl⟩
      rw [hx] at c1
      have hx := Lib.hid hx
      clear hc
      by_cases hx1 : 0 ≤ x ∧ x < 1000000271
      · have D := Lib.hid (decide_eq_true hx1)
        have E' : Hid (∀ j, j < k + 1 → 0 ≤ zs.getD j 0 ∧ zs.getD j 0 < 1000000271) := Lib.hid (fun j hj => by
          rcases Nat.lt_or_ge j k with h1 | h1
          · exact E.out j h1
          · obtain rfl : j = k := by omega
            rw [hx.out]; exact hx1)
        clear hx1
        go_wp2_with (go_at_call 45; refine (sisNum_eq _ _ D.out _).mono ?_; rintro e w' ⟨rfl, rfl⟩)
        go_round
        case rel => exact ⟨k + 1, by go_num, by omega, E'⟩
        case measure => simp [intOf]; omega
      · have D := Lib.hid (decide_eq_false hx1)
        have R := Lib.hid <| allNum_no zs k (by rw [H.out.1]; exact hlt) (by rw [hx.out]; exact hx1)
        clear hx1
        go_wp2_with (go_at_call 45; refine (sisNum_eq _ _ D.out _).mono ?_; rintro e w' ⟨rfl, rfl⟩)
        go_ret
        exact ⟨by rw [R.out]; rfl, rfl⟩
    · obtain rfl : k = n := by omega
      have R := Lib.hid <| allNum_yes zs (fun j hj => E.out j (by rw [H.out.1] at hj; exact hj))
      go_wp2_with fail
      go_ret
      exact ⟨by rw [R.out]; rfl, rfl⟩
end Go.Proofs.Ytkpbaaigopheeaa
