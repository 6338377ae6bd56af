/- The contracts of SeriesOk, of the program and of the reference, and of the copy of a series. -/
import Derived.Test.YtajalndghbbfdaaDoorSeries
import Derived.Test.YtajalndghbbfdaaDoorAll
import Derived.Deep.RegionHeld3
namespace Go.Proofs.YtajalndghbbfdaaDoor
open Go.RowKit Go.PlainNum

/-- whether a series is one -/
def serOk (o u : Int) (zs : List Int) : Bool := decide (0 ≤ o ∧ o ≤ 6) && decide (0 ≤ u ∧ u < 1000000271) && decide ((zs.length : Int) = ctn o) && allNum zs
theorem serOk_1 {o u : Int} {zs : List Int} (h : ¬ (0 ≤ o ∧ o ≤ 6)) : serOk o u zs = false := by unfold serOk; rw [decide_eq_false h]; rfl
theorem serOk_2 {o u : Int} {zs : List Int} (h : ¬ (0 ≤ u ∧ u < 1000000271)) : serOk o u zs = false := by unfold serOk; rw [decide_eq_false h]; simp
theorem serOk_3 {o u : Int} {zs : List Int} (h : ¬ ((zs.length : Int) = ctn o)) : serOk o u zs = false := by unfold serOk; rw [decide_eq_false h]; simp
theorem serOk_4 {o u : Int} {zs : List Int} (h1 : 0 ≤ o ∧ o ≤ 6) (h2 : 0 ≤ u ∧ u < 1000000271) (h3 : (zs.length : Int) = ctn o) : serOk o u zs = allNum zs := by unfold serOk; rw [decide_eq_true h1, decide_eq_true h2, decide_eq_true h3]; simp
theorem serOk_spec {o u : Int} {zs : List Int} (h : serOk o u zs = true) : (0 ≤ o ∧ o ≤ 6) ∧ (0 ≤ u ∧ u < 1000000271) ∧ (zs.length : Int) = ctn o ∧ allNum zs = true := by
  unfold serOk at h
  simpa [and_assoc] using h
attribute [irreducible] serOk

theorem quiet_lt {P : Program} {f : FuncId} {args : Array Value} {w : World} {n : Nat} {v : Value}
    (h : Calls P f args (w.drewN n) fun e w' => e = .returned v ∧ w.drewN n = w') : Calls P f args (w.drewN n) fun e w'' => e = .returned v ∧ ∃ m, w'' = w.drewN m :=
  h.mono fun _ _ ⟨he, hm⟩ => ⟨he, n, hm.symm⟩

set_option maxRecDepth 100000 in
set_option maxHeartbeats 1000000 in
theorem serOk_any (o u : Int) (A : Option Addr) (n c : Nat) (zs : List Int) (B : Nat) (w : World) (hc : CT B w) (hB : B ≤ w.heap.size) (h : Rd w w.heap.size A n zs) (hn : (n : Int) ≤ 2000000) :
    Calls Tryd.prog 16 #[.agg #[.int .i64 o, .int .i64 u, .slice A n c]] w fun e w' => e = .returned (.bool (serOk o u zs)) ∧ Below w.heap.size w w' := by
  have H := Lib.hid h
  have HC := Lib.hid hc
  clear h hc
  by_cases h1 : 0 ≤ o
  · have t1 : decide (o ≥ 0) = true := decide_eq_true h1
    by_cases h2 : o ≤ 6
    · have t2 : decide (o ≤ 6) = true := decide_eq_true h2
      by_cases h3 : 0 ≤ u ∧ u < 1000000271
      · have D3 := Lib.hid (decide_eq_true h3)
        by_cases h4 : (zs.length : Int) = ctn o
        · have t4 : ((n : Int) == ctn o) = true := by rw [beq_iff_eq, ← h4, H.out.1]
          have R := Lib.hid (serOk_4 ⟨h1, h2⟩ h3 h4)
          clear h3 h4
          go_enter Tryd.func16, Tryd.ntmps16
          go_wp2_with fail
          go_quiet ((first | (go_at_call 35; exact quiet_lt (isNum_eq _ _ D3.out _)) | (go_at_call 36; exact quiet_lt (count_any _ B _ (HC.out.below (bel_drewN ((Below.refl _ _).alloc (Nat.le_refl _) _) _) hB))) | (go_at_call 37; exact quiet_lt (allNumbers_any w.heap.size _ _ _ zs _ (H.out.below (bel_drewN ((Below.refl _ _).alloc (Nat.le_refl _) _) _) (Nat.le_refl _)) (by omega)))))
          go_wp2_with fail
          go_ret
          exact ⟨by rw [R.out]; rfl, bel_drewN ((Below.refl _ _).alloc (Nat.le_refl _) _) _⟩
        · have t4 : ((n : Int) == ctn o) = false := by rw [beq_eq_false_iff_ne, ← H.out.1]; exact h4
          have R := Lib.hid (serOk_3 (o := o) (u := u) h4)
          clear h3 h4
          go_enter Tryd.func16, Tryd.ntmps16
          go_wp2_with fail
          go_quiet ((first | (go_at_call 35; exact quiet_lt (isNum_eq _ _ D3.out _)) | (go_at_call 36; exact quiet_lt (count_any _ B _ (HC.out.below (bel_drewN ((Below.refl _ _).alloc (Nat.le_refl _) _) _) hB)))))
          go_wp2_with fail
          go_ret
          exact ⟨by rw [R.out]; rfl, bel_drewN ((Below.refl _ _).alloc (Nat.le_refl _) _) _⟩
      · have D3 := Lib.hid (decide_eq_false h3)
        have R := Lib.hid (serOk_2 (o := o) (zs := zs) h3)
        clear h3
        go_enter Tryd.func16, Tryd.ntmps16
        go_wp2_with fail
        go_quiet ((go_at_call 35; exact quiet_lt (isNum_eq _ _ D3.out _)))
        go_wp2_with fail
        go_ret
        exact ⟨by rw [R.out]; rfl, bel_drewN ((Below.refl _ _).alloc (Nat.le_refl _) _) _⟩
    · have t2 : decide (o ≤ 6) = false := decide_eq_false h2
      have R := Lib.hid (serOk_1 (u := u) (zs := zs) (fun h => h2 h.2))
      go_enter Tryd.func16, Tryd.ntmps16
      go_wp2_with fail
      go_quiet (fail)
      go_wp2_with fail
      go_ret
      exact ⟨by rw [R.out]; rfl, bel_drewN ((Below.refl _ _).alloc (Nat.le_refl _) _) _⟩
  · have t1 : decide (o ≥ 0) = false := decide_eq_false h1
    have R := Lib.hid (serOk_1 (u := u) (zs := zs) (fun h => h1 h.1))
    go_enter Tryd.func16, Tryd.ntmps16
    go_wp2_with fail
    go_quiet (fail)
    go_wp2_with fail
    go_ret
    exact ⟨by rw [R.out]; rfl, bel_drewN ((Below.refl _ _).alloc (Nat.le_refl _) _) _⟩

/-- CountTrees of the reference, the cells of a struct kept -/
theorem scount_keep (n : Int) (s : Nat) (x y z : Value) (w : World) (h0 : w.cell? ⟨s, 0, none⟩ = some x) (h1 : w.cell? ⟨s, 1, none⟩ = some y) (h2 : w.cell? ⟨s, 2, none⟩ = some z) :
    Calls Tryd.prog 32 #[.int .i64 n] w fun e w' => e = .returned (.int .i64 (ctn n)) ∧ w'.cell? ⟨s, 0, none⟩ = some x ∧ w'.cell? ⟨s, 1, none⟩ = some y ∧ w'.cell? ⟨s, 2, none⟩ = some z ∧ Below w.heap.size w w' :=
  (scount_any n w).mono fun _ _ ⟨he, hb⟩ => ⟨he, (hb.cell (World.block_lt_of_cell? _ _ h0)).trans h0, (hb.cell (World.block_lt_of_cell? _ _ h1)).trans h1, (hb.cell (World.block_lt_of_cell? _ _ h2)).trans h2, hb⟩

set_option maxRecDepth 100000 in
set_option maxHeartbeats 2000000 in
theorem sserOk_any (o u : Int) (A : Option Addr) (n c : Nat) (zs : List Int) (w : World) (h : Rd w w.heap.size A n zs) (hn : (n : Int) ≤ 2000000) :
    Calls Tryd.prog 14 #[.agg #[.int .i64 o, .int .i64 u, .slice A n c]] w fun e w' => e = .returned (.bool (serOk o u zs)) ∧ Below w.heap.size w w' := by
  have H := Lib.hid h
  clear h
  by_cases h1 : 0 ≤ o ∧ o ≤ 6
  · have D1 := Lib.hid (decide_eq_true h1)
    by_cases h3 : 0 ≤ u ∧ u < 1000000271
    · have D3 := Lib.hid (decide_eq_true h3)
      by_cases h4 : (zs.length : Int) = ctn o
      · have t4 : ((n : Int) == ctn o) = true := by rw [beq_iff_eq, ← h4, H.out.1]
        have R := Lib.hid (serOk_4 h1 h3 h4)
        clear h1 h3 h4
        go_enter Tryd.func14, Tryd.ntmps14
        go_wp2_with fail
        first | (go_region_held3 (fun w' => w'.cell? ⟨w.heap.size, 0, none⟩ = some (.int .i64 o) ∧ w'.cell? ⟨w.heap.size, 1, none⟩ = some (.int .i64 u) ∧ w'.cell? ⟨w.heap.size, 2, none⟩ = some (.slice A n c)) (go_keep) (first | (go_at_call 23; refine (l1In_eq _ _ _ _ D1.out _).mono ?_; rintro e w' ⟨rfl, rfl⟩) | (go_at_call 31; refine (sisNum_eq _ _ D3.out _).mono ?_; rintro e w' ⟨rfl, rfl⟩) | (go_at_call 32; refine (scount_keep _ w.heap.size (.int .i64 o) (.int .i64 u) (.slice A n c) _ ?_ ?_ ?_).mono ?_; (simp [*]); (simp [*]); (simp [*]); rintro e w1 ⟨rfl, k0, k1, k2, B1⟩) | (go_at_call 33; refine (l1All_any w.heap.size _ _ _ zs _ (H.out.below (((Below.refl _ _).alloc (Nat.le_refl _) _).drew.trans (B1.mono (by simp))) (Nat.le_refl _)) (by omega)).mono ?_; rintro e w' ⟨rfl, rfl⟩)))
        all_goals go_wp2_with fail
        all_goals go_ret
        all_goals exact ⟨by rw [R.out]; rfl, ((Below.refl _ _).alloc (Nat.le_refl _) _).drew.trans (B1.mono (by simp))⟩
      · have t4 : ((n : Int) == ctn o) = false := by rw [beq_eq_false_iff_ne, ← H.out.1]; exact h4
        have R := Lib.hid (serOk_3 (o := o) (u := u) h4)
        clear h1 h3 h4
        go_enter Tryd.func14, Tryd.ntmps14
        go_wp2_with fail
        first | (go_region_with (first | (go_at_call 23; refine (l1In_eq _ _ _ _ D1.out _).mono ?_; rintro e w' ⟨rfl, rfl⟩) | (go_at_call 31; refine (sisNum_eq _ _ D3.out _).mono ?_; rintro e w' ⟨rfl, rfl⟩) | (go_at_call 32; refine (scount_keep _ w.heap.size (.int .i64 o) (.int .i64 u) (.slice A n c) _ ?_ ?_ ?_).mono ?_; (simp [*]); (simp [*]); (simp [*]); rintro e w1 ⟨rfl, k0, k1, k2, B1⟩) | (go_at_call 33; refine (l1All_any w.heap.size _ _ _ zs _ (H.out.below (((Below.refl _ _).alloc (Nat.le_refl _) _).drew.trans (B1.mono (by simp))) (Nat.le_refl _)) (by omega)).mono ?_; rintro e w' ⟨rfl, rfl⟩))) | fail
        all_goals go_wp2_with fail
        all_goals go_ret
        all_goals exact ⟨by rw [R.out]; rfl, ((Below.refl _ _).alloc (Nat.le_refl _) _).drew.trans (B1.mono (by simp))⟩
    · have D3 := Lib.hid (decide_eq_false h3)
      have R := Lib.hid (serOk_2 (o := o) (zs := zs) h3)
      clear h3 h1
      go_enter Tryd.func14, Tryd.ntmps14
      go_wp2_with fail
      go_quiet ((first | (go_at_call 23; exact quiet_lt (l1In_eq _ _ _ _ D1.out _)) | (go_at_call 31; exact quiet_lt (sisNum_eq _ _ D3.out _))))
      go_wp2_with fail
      go_ret
      exact ⟨by rw [R.out]; rfl, bel_drewN ((Below.refl _ _).alloc (Nat.le_refl _) _) _⟩
  · have D1 := Lib.hid (decide_eq_false h1)
    have R := Lib.hid (serOk_1 (u := u) (zs := zs) h1)
    clear h1
    go_enter Tryd.func14, Tryd.ntmps14
    go_wp2_with fail
    go_quiet ((go_at_call 23; exact quiet_lt (l1In_eq _ _ _ _ D1.out _)))
    go_wp2_with fail
    go_ret
    exact ⟨by rw [R.out]; rfl, bel_drewN ((Below.refl _ _).alloc (Nat.le_refl _) _) _⟩
end Go.Proofs.YtajalndghbbfdaaDoor
