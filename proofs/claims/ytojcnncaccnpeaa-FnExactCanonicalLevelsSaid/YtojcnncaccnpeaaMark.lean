/- The contracts of the laws' functions that mark a slice of integers and look whether the marks are held. -/
import Derived.Test.YtojcnncaccnpeaaInts
import Derived.Maps.AppendAt
namespace Go.Proofs.Ytojcnncaccnpeaa
open Go.RowKit

theorem Rd.grown {w w' : World} {B n : Nat} {A : Option Addr} {zs : List Int} {row : Option Nat} (h : Rd w B A n zs) (hg : w.grownBy w' row) (hr : ∀ g, row = some g → B ≤ g) : Rd w' B A n zs := by
  refine ⟨h.1, fun hn => ?_⟩
  obtain ⟨b, off, e, hB, hc⟩ := h.2 hn
  exact ⟨b, off, e, hB, fun j hj => hg.cell (hc j hj) (fun e => by have := hr b e.symm; omega)⟩

/-- n marks from k on -/
def iota (k : Int) (n : Nat) : List Int := (List.range n).map fun i : Nat => k + (i : Int)
theorem iota_len (k : Int) (n : Nat) : (iota k n).length = n := by simp [iota]
theorem iota_get (k : Int) (n i : Nat) (h : i < n) : (iota k n).getD i 0 = k + i := by simp [iota, h]
/-- a list of n elements of which the first j are marked from k on -/
def part (zs : List Int) (k : Int) (j n : Nat) : List Int := (List.range n).map fun i : Nat => if i < j then k + (i : Int) else zs.getD i 0
theorem part_len (zs : List Int) (k : Int) (j n : Nat) : (part zs k j n).length = n := by simp [part]
theorem part_zero (zs : List Int) (k : Int) (n : Nat) (hn : zs.length = n) : part zs k 0 n = zs := by
  apply List.ext_getElem?
  intro i
  by_cases hi : i < n
  · simp [part, hi, List.getElem?_eq_getElem (show i < zs.length by omega)]
  · simp [part, hi, List.getElem?_eq_none (show zs.length ≤ i by omega)]
theorem part_full (zs : List Int) (k : Int) (n : Nat) : part zs k n n = iota k n := by
  apply List.ext_getElem?
  intro i
  by_cases hi : i < n
  · simp [part, iota, hi]
  · simp [part, iota, hi]
theorem part_set (zs : List Int) (k : Int) (j n : Nat) : (part zs k j n).set j (k + j) = part zs k (j + 1) n := by
  apply List.ext_getElem?
  intro i
  by_cases hi : i < n
  · by_cases hk : i = j
    · subst hk
      rw [List.getElem?_set_self (by simp [part, hi])]
      simp [part, hi]
    · rw [List.getElem?_set_ne (by omega)]
      simp [part, hi, show (i < j + 1) = (i < j) by simp; omega]
  · rw [List.getElem?_eq_none (by simp [part]; omega), List.getElem?_eq_none (by simp [part]; omega)]
attribute [irreducible] iota part

theorem own_form {w : World} {base n cap : Nat} {e : TypeId} {A : Option Addr} {xs : List Value} (h : w.ownsRow base e 1 (.slice A n cap) n xs) (hn : 0 < n) : ∃ g, A = some ⟨g, 0, none⟩ := by
  rcases h.2 with ⟨_, h0⟩ | ⟨g, cap', cur, hv, _⟩
  · omega
  · simp only [Value.slice.injEq] at hv; exact ⟨g, hv.1⟩

set_option maxRecDepth 100000 in
set_option maxHeartbeats 1000000 in
theorem markIntS_any (base : Nat) (A : Option Addr) (n cap : Nat) (zs : List Int) (k : Int) (w : World) (h : w.ownsRow base 3 1 (.slice A n cap) n (zs.map (Value.int .i64))) (hn : (n : Int) ≤ 4000000) (hk : 0 ≤ k) (hk' : k ≤ 100000000) :
    Calls Try.prog 8 #[.slice A n cap, .int .i64 k] w fun e w' => e = .returned (.int .i64 (k + n)) ∧ w'.ownsRow base 3 1 (.slice A n cap) n ((iota k n).map (Value.int .i64)) ∧ w.grownBy w' (Value.slice A n cap).ownBlock := by
  have hl : zs.length = n := by have := h.1; simpa using this
  have O0 : w.ownsRow base 3 1 (.slice A n cap) n ((part zs k 0 n).map (Value.int .i64)) := by rw [part_zero zs k n hl]; exact h
  have HL := Lib.hid hl
  clear h hl
  go_enter Try.func8, Try.ntmps8
  go_wp2_with fail
  go_loopw [1, 5] (fun c i wr => ∃ j : Nat, c = .int .i64 (k + j) ∧ i = .int .i64 j ∧ j ≤ n ∧ wr.ownsRow base 3 1 (.slice A n cap) n ((part zs k j n).map (Value.int .i64)) ∧ w.grownBy wr (Value.slice A n cap).ownBlock)
    (fun _ i _ => n - (intOf i).toNat)
  case atStart => exact ⟨0, by simp, rfl, Nat.zero_le _, O0, World.grownBy.refl _ _⟩
  case round =>
    obtain ⟨j, rfl, rfl, hj, O, G⟩ := hrel
    clear O0
    by_cases hlt : j < n
    · obtain ⟨g, rfl⟩ := own_form O (by omega)
      have S := O.stored j (.int .i64 (k + j))
      have f2 := O.frozenAt j
      have c2 := O.cellAt j (by omega)
      rw [List.getElem?_eq_getElem (by simp [part_len]; omega)] at c2
      obtain ⟨x, hx⟩ : ∃ x, ((part zs k j n).map (Value.int .i64))[j]'(by simp [part_len]; omega) = x := ⟨_, rfl⟩
      rw [hx] at c2
      rw [← List.map_set, part_set] at S
      have O1 := Lib.hid S.1
      have G1 := Lib.hid (G.trans S.2)
      clear O hx S G
      go_wp2_with fail
      go_roundw
      case rel => exact ⟨j + 1, by go_num, by go_num, by omega, O1.out, G1.out⟩
      case measure => simp [intOf]; omega
    · obtain rfl : j = n := by omega
      rw [part_full] at O
      go_wp2_with fail
      go_ret
      exact ⟨rfl, O, G⟩

set_option maxRecDepth 100000 in
set_option maxHeartbeats 1000000 in
theorem heldIntS_any (B : Nat) (A : Option Addr) (n cap : Nat) (k : Int) (w : World) (h : Rd w B A n (iota k n)) (hn : (n : Int) ≤ 4000000) (hk : 0 ≤ k) (hk' : k ≤ 100000000) :
    Calls Try.prog 9 #[.slice A n cap, .int .i64 k] w fun e w' => e = .returned (.int .i64 (k + n)) ∧ w = w' := by
  have H := Lib.hid h
  clear h
  go_enter Try.func9, Try.ntmps9
  go_wp2_with fail
  go_loop [1, 5] (fun c i => ∃ j : Nat, c = .int .i64 (k + j) ∧ i = .int .i64 j ∧ j ≤ n) (fun _ i => n - (intOf i).toNat)
  case atStart => exact ⟨0, by simp, rfl, Nat.zero_le _⟩
  case round =>
    obtain ⟨j, rfl, rfl, hj⟩ := hrel
    by_cases hlt : j < n
    · obtain ⟨b, off, rfl, _, hc⟩ := H.out.2 (by omega)
      have c1 := hc j hlt
      rw [iota_get k n j hlt] at c1
      clear hc
      go_wp2_with fail
      go_round
      case rel => exact ⟨j + 1, by go_num, by go_num, by omega⟩
      case measure => simp [intOf]; omega
    · obtain rfl : j = n := by omega
      go_wp2_with fail
      go_ret
      exact ⟨rfl, rfl⟩
end Go.Proofs.Ytojcnncaccnpeaa
