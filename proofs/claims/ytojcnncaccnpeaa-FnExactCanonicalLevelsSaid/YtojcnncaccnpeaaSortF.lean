/- The contract of slices.SortFunc on short tables, under the program's own comparison. -/
import Derived.Test.YtojcnncaccnpeaaSort
namespace Go.Proofs.Ytojcnncaccnpeaa
open Go.RowKit Go.PlainNum

set_option maxRecDepth 100000 in
theorem len_any (n : Nat) (hn : n ≤ 6) (w : World) : Calls Try.prog 22 #[.int .u64 (n : Int)] w fun e w' => (∃ r, e = .returned (.int .i64 r)) ∧ w = w' := by
  have h : n = 0 ∨ n = 1 ∨ n = 2 ∨ n = 3 ∨ n = 4 ∨ n = 5 ∨ n = 6 := by omega
  rcases h with rfl | rfl | rfl | rfl | rfl | rfl | rfl
  all_goals (
    go_enter Try.func22, Try.ntmps22
    go_wp2
    go_ret
    exact ⟨⟨_, rfl⟩, rfl⟩)

theorem insort_none (g cap : Nat) (base : Nat) (bs ks : Nat → Nat) (R : Nat → List Int) (w : World) (h : Tob w base (.slice (some ⟨g, 0, none⟩) 0 cap) 0 bs ks R) :
    Calls Try.prog 24 #[.slice (some ⟨g, 0, none⟩) 0 cap, .int .i64 0, .int .i64 (0 : Nat), .func (.func 19) #[] #[]] w fun e w' => SrtP w w' base g cap 0 R e := by
  have H := Lib.hid h
  clear h
  go_enter Try.func24, Try.ntmps24
  go_wp2_with fail
  go_loopw [8] (fun x wr => x = .int .i64 1 ∧ Hid (wr = w)) (fun _ _ => 0)
  case atStart => exact ⟨rfl, Lib.hid rfl⟩
  case round =>
    obtain ⟨rfl, hw⟩ := hrel
    have hw := hw.out
    subst hw
    go_wp2_with fail
    go_end0
    exact ⟨rfl, ⟨bs, ks, H.out⟩, Below.refl _ _⟩

set_option maxRecDepth 100000 in
set_option maxHeartbeats 4000000 in
theorem pdq_any (base g cap n : Nat) (r : Int) (R : Nat → List Int) (w : World) (hn : n ≤ 6)
    (CI : Hid (Calls Try.prog 24 #[.slice (some ⟨g, 0, none⟩) n cap, .int .i64 0, .int .i64 n, .func (.func 19) #[] #[]] w fun e w' => SrtP w w' base g cap n R e)) :
    Calls Try.prog 21 #[.slice (some ⟨g, 0, none⟩) n cap, .int .i64 0, .int .i64 n, .int .i64 r, .func (.func 19) #[] #[]] w fun e w' => SrtP w w' base g cap n R e := by
  have t1 : decide ((n : Int) ≤ 12) = true := decide_eq_true (by omega)
  go_enter Try.func21, Try.ntmps21
  go_wp2_with fail
  go_loopw [1, 2] (fun x y wr => x = .int .i64 0 ∧ y = .int .i64 n ∧ Hid (wr = w)) (fun _ _ _ => 0)
  case atStart => exact ⟨rfl, rfl, Lib.hid rfl⟩
  case round =>
    obtain ⟨rfl, rfl, hw⟩ := hrel
    have hw := hw.out
    subst hw
    go_wp2_with fail
    refine CI.out.mono ?_
    rintro e w' ⟨rfl, h1, h2⟩
    go_wp2_with fail
    first | go_end0 | (simp only [Exit.inBlock, Exit.then]; refine bodyPost_ret (results_none rfl _ _ _) rfl ?_) | refine bodyPost_ret (results_none rfl _ _ _) rfl ?_
    exact ⟨rfl, h1, h2⟩

set_option maxRecDepth 100000 in
set_option maxHeartbeats 4000000 in
theorem sortFunc_any (base g cap n : Nat) (bs ks : Nat → Nat) (R : Nat → List Int) (w : World) (h : Tob w base (.slice (some ⟨g, 0, none⟩) n cap) n bs ks R) (hn : n ≤ 6) (hL : ∀ x, x < n → (R x).length ≤ 4000) :
    Calls Try.prog 18 #[.slice (some ⟨g, 0, none⟩) n cap, .func (.func 19) #[] #[]] w fun e w' => SrtP w w' base g cap n R e := by
  have CI : Hid (Calls Try.prog 24 #[.slice (some ⟨g, 0, none⟩) n cap, .int .i64 0, .int .i64 n, .func (.func 19) #[] #[]] w fun e w' => SrtP w w' base g cap n R e) := Lib.hid (by
    rcases Nat.eq_zero_or_pos n with h0 | h0
    · subst h0; exact insort_none g cap base bs ks R w h
    · exact insort_any base g cap n bs ks R w h h0 (by omega) hL)
  clear h hL
  go_enter Try.func18, Try.ntmps18
  go_wp2_with fail
  refine (len_any n hn _).mono ?_
  rintro e w' ⟨⟨r, rfl⟩, rfl⟩
  go_wp2_with fail
  refine (pdq_any base g cap n r R w hn CI).mono ?_
  rintro e w' ⟨rfl, h1, h2⟩
  go_wp2_with fail
  go_end0
  exact ⟨rfl, h1, h2⟩
end Go.Proofs.Ytojcnncaccnpeaa
