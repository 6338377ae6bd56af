/- The contracts of small functions of the laws: a byte of a code, two equal lists. -/
import Derived.Test.YtjlcmafeemdneaaDoorDraw
import Derived.Test.YtjlcmafeemdneaaDoorOwn
namespace Go.Proofs.YtjlcmafeemdneaaDoor
open Go.RowKit Go.PlainNum

set_option maxRecDepth 100000 in
set_option maxHeartbeats 1000000 in
theorem at0_any (A : Option Addr) (n cap : Nat) (w : World) (h : RdB w w.heap.size A n) (hn : (n : Int) ≤ 1000000000) :
    Calls Tryd.prog 18 #[.slice A n cap, .int .i64 0] w fun e w' => ∃ r : Nat, e = .returned (.int .i64 (r : Int)) ∧ r ≤ 255 ∧ w = w' := by
  by_cases h0 : 0 < n
  · obtain ⟨b, off, rfl, hb, hc⟩ := h h0
    obtain ⟨x, x0, x1, hx⟩ := hc 0 h0
    obtain ⟨r, rfl⟩ := Int.eq_ofNat_of_zero_le x0
    rw [Nat.add_zero] at hx
    have t0 : decide ((0 : Int) < (n : Int)) = true := decide_eq_true (by omega)
    clear hc h
    go_enter Tryd.func18, Tryd.ntmps18
    go_wp2_with fail
    go_ret
    exact ⟨r, by go_num, by omega, rfl⟩
  · have t0 : decide ((0 : Int) < (n : Int)) = false := decide_eq_false (by omega)
    obtain rfl : n = 0 := by omega
    go_enter Tryd.func18, Tryd.ntmps18
    go_wp2_with fail
    go_ret
    exact ⟨0, rfl, by omega, rfl⟩

set_option maxRecDepth 100000 in
set_option maxHeartbeats 1000000 in
theorem ints_eq (A C : Option Addr) (n c d : Nat) (xs : List Int) (w : World) (h : Rd w w.heap.size A n xs) (h' : Rd w w.heap.size C n xs) (hn : (n : Int) ≤ 2000000) :
    Calls Tryd.prog 19 #[.slice A n c, .slice C n d] w fun e w' => e = .returned (.bool true) ∧ Below w.heap.size w w' := by
  have t0 : ((n : Int) != n) = false := by simp
  go_enter Tryd.func19, Tryd.ntmps19
  go_wp2_with fail
  go_loopw [5] (fun i wr => ∃ k : Nat, i = .int .i64 k ∧ k ≤ n ∧ Below w.heap.size w wr)
    (fun i _ => n - (intOf i).toNat)
  case atStart => exact ⟨0, rfl, Nat.zero_le _, Below.refl _ _⟩
  case round =>
    obtain ⟨k, rfl, hk, B⟩ := hrel
    by_cases hlt : k < n
    · obtain ⟨b, off, rfl, hb, hc⟩ := h.2 (by omega)
      obtain ⟨b', off', rfl, hb', hc'⟩ := h'.2 (by omega)
      have c1 := (B.cell (p := ⟨b, off + k, none⟩) hb).trans (hc k hlt)
      have c2 := (B.cell (p := ⟨b', off' + k, none⟩) hb').trans (hc' k hlt)
      obtain ⟨x, hx⟩ : ∃ x, xs.getD k 0 = x := ⟨_, rfl⟩
      rw [hx] at c1 c2
      clear hc hc' h h' hx
      have t1 : (x != x) = false := by simp
      go_wp2_with fail
      go_quiet (fail)
      go_wp2_with fail
      go_roundw
      case rel => exact ⟨k + 1, by go_num, by omega, bel_drewN B _⟩
      case measure => simp [intOf]; omega
    · obtain rfl : k = n := by omega
      go_wp2_with fail
      go_ret
      exact ⟨rfl, B⟩
end Go.Proofs.YtjlcmafeemdneaaDoor
