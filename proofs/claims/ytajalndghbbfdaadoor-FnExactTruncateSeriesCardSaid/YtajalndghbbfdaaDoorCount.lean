/- The contracts of CountTrees, of the program and of the reference. -/
import Derived.Test.YtajalndghbbfdaaDoorProg
import Derived.Test.YtajalndghbbfdaaDoorPlainCount
import Derived.WalkKit
import Derived.Lib.Hide
import Derived.WalkSpells
import Derived.WalkLawsBesides
namespace Go.Proofs.YtajalndghbbfdaaDoor
open Go.RowKit Go.PlainNum

/-- what is asked of the world: the table of the program lies there, and ends below a block -/
def CT (B : Nat) (w : World) : Prop :=
  0 < B ∧ ∃ R o cap, R < B ∧ w.cell? ⟨0, 0, none⟩ = some (.slice (some ⟨R, o, none⟩) 7 cap) ∧ ∀ j, j < 7 → w.cell? ⟨R, o + j, none⟩ = some (.int .i64 (ct j))

theorem CT.below {B C : Nat} {w w' : World} (h : CT B w) (hb : Below C w w') (hBC : B ≤ C) : CT B w' := by
  obtain ⟨h0, R, o, cap, hR, h1, h2⟩ := h
  exact ⟨h0, R, o, cap, hR, (hb.cell (p := ⟨0, 0, none⟩) (show 0 < C by omega)).trans h1, fun j hj => (hb.cell (p := ⟨R, o + j, none⟩) (show R < C by omega)).trans (h2 j hj)⟩

theorem CT.grown {B : Nat} {w w' : World} {row : Option Nat} (h : CT B w) (hg : w.grownBy w' row) (hr : ∀ g, row = some g → B ≤ g) : CT B w' := by
  obtain ⟨h0, R, o, cap, hR, h1, h2⟩ := h
  exact ⟨h0, R, o, cap, hR, hg.cell h1 (fun e => by have := hr 0 e.symm; omega), fun j hj => hg.cell (h2 j hj) (fun e => by have := hr R e.symm; omega)⟩

theorem count_no (n : Int) (h : ¬ (0 ≤ n ∧ n ≤ 6)) (w : World) :
    Calls Tryd.prog 36 #[.int .i64 n] w fun e w' => e = .returned (.int .i64 (ctn n)) ∧ w = w' := by
  rw [ctn_no n h]
  by_cases h1 : n < 0
  · go_enter Tryd.func36, Tryd.ntmps36
    go_wp2
    go_ret
    exact ⟨rfl, rfl⟩
  · have h2 : 6 < n := by omega
    go_enter Tryd.func36, Tryd.ntmps36
    go_wp2
    go_ret
    exact ⟨rfl, rfl⟩

theorem count_yes (k : Nat) (h : k ≤ 6) (B : Nat) (w : World) (hc : CT B w) :
    Calls Tryd.prog 36 #[.int .i64 k] w fun e w' => e = .returned (.int .i64 (ctn k)) ∧ w = w' := by
  rw [ctn_yes k h]
  obtain ⟨_, R, o, cap, _, h1, h2⟩ := hc
  have h3 := h2 k (by omega)
  clear h2
  have h4 : decide ((k : Int) < 0) = false := decide_eq_false (by omega)
  have h5 : decide ((k : Int) > 6) = false := decide_eq_false (by omega)
  go_enter Tryd.func36, Tryd.ntmps36
  go_wp2
  go_ret
  exact ⟨rfl, rfl⟩

theorem count_any (n : Int) (B : Nat) (w : World) (hc : CT B w) :
    Calls Tryd.prog 36 #[.int .i64 n] w fun e w' => e = .returned (.int .i64 (ctn n)) ∧ w = w' := by
  by_cases h : 0 ≤ n ∧ n ≤ 6
  · obtain ⟨k, rfl⟩ := Int.eq_ofNat_of_zero_le h.1
    exact count_yes k (by omega) B w hc
  · exact count_no n h w

theorem starts_any (w : World) :
    Calls Tryd.prog 44 #[] w fun e w' => e = .returned (.slice (some ⟨w.heap.size, 0, none⟩) 7 7) ∧ w' = w.alloc (.cells #[.int .i64 0, .int .i64 1, .int .i64 2, .int .i64 4, .int .i64 8, .int .i64 17, .int .i64 37] 3) := by
  go_enter Tryd.func44, Tryd.ntmps44
  go_wp2
  go_ret
  exact ⟨rfl, rfl⟩

theorem scount_any (n : Int) (w : World) :
    Calls Tryd.prog 32 #[.int .i64 n] w fun e w' => e = .returned (.int .i64 (ctn n)) ∧ Below w.heap.size w w' := by
  by_cases h : 0 ≤ n ∧ n ≤ 6
  · rcases (show n = 0 ∨ n = 1 ∨ n = 2 ∨ n = 3 ∨ n = 4 ∨ n = 5 ∨ n = 6 by omega) with rfl | rfl | rfl | rfl | rfl | rfl | rfl
    all_goals
      go_enter Tryd.func32, Tryd.ntmps32
      go_wp2
      go_ret
      exact ⟨by unfold ctn; rfl, (Below.refl _ _).alloc (Nat.le_refl _) _⟩
  · rw [ctn_no n h]
    by_cases h1 : n < 0
    · go_enter Tryd.func32, Tryd.ntmps32
      go_wp2
      go_ret
      exact ⟨rfl, Below.refl _ _⟩
    · have h2 : 6 < n := by omega
      have h3 : decide (n ≤ 6) = false := decide_eq_false (by omega)
      go_enter Tryd.func32, Tryd.ntmps32
      go_wp2
      go_ret
      exact ⟨rfl, Below.refl _ _⟩
end Go.Proofs.YtajalndghbbfdaaDoor
