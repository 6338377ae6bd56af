/- The contract of the library's sort by insertion on a table, under the program's own comparison. -/
import Derived.Test.YtojcnncaccnpeaaLess
import Derived.Deep.RegionWith
namespace Go.Proofs.Ytojcnncaccnpeaa
open Go.RowKit Go.PlainNum

/-- what the sort leaves -/
def SrtP (w w' : World) (base g cap n : Nat) (R : Nat → List Int) (e : Ending) : Prop :=
  e = .returned (.tuple #[]) ∧ (∃ bs ks, Tob w' base (.slice (some ⟨g, 0, none⟩) n cap) n bs ks (srt R n)) ∧ Below base w w'

set_option maxRecDepth 100000 in
set_option maxHeartbeats 1600000 in
theorem insort_any (base g cap n : Nat) (bs ks : Nat → Nat) (R : Nat → List Int) (w : World) (h : Tob w base (.slice (some ⟨g, 0, none⟩) n cap) n bs ks R) (hn0 : 0 < n) (hn : n ≤ 1000) (hL : ∀ x, x < n → (R x).length ≤ 4000) :
    Calls Try.prog 24 #[.slice (some ⟨g, 0, none⟩) n cap, .int .i64 0, .int .i64 n, .func (.func 19) #[] #[]] w fun e w' => SrtP w w' base g cap n R e := by
  have H := Lib.hid h
  have hL := Lib.hid hL
  have hgb := (h.out.lt g rfl)
  clear h
  go_enter Try.func24, Try.ntmps24
  go_wp2_with fail
  go_loopw [8] (fun x wr => ∃ (i : Nat) (bs ks : Nat → Nat), x = .int .i64 i ∧ 1 ≤ i ∧ i ≤ n ∧ Hid (Tob wr base (.slice (some ⟨g, 0, none⟩) n cap) n bs ks (srt R i)) ∧ Hid (Below base w wr)) (fun x _ => n - (intOf x).toNat)
  case atStart => exact ⟨1, bs, ks, rfl, Nat.le_refl _, hn0, Lib.hid (by rw [srt_one]; exact H.out), Lib.hid (Below.refl _ _)⟩
  case round =>
    rename_i wr _
    obtain ⟨i, bs1, ks1, rfl, hi1, hin, HM, HB⟩ := hrel
    by_cases hlt : i < n
    · go_wp2_with fail
      go_loopw [9] (fun x wr2 => ∃ (j : Nat) (bs ks : Nat → Nat), x = .int .i64 j ∧ j ≤ i ∧ Hid (Tob wr2 base (.slice (some ⟨g, 0, none⟩) n cap) n bs ks (arr R i j)) ∧ Hid (Below base w wr2) ∧ Hid (pos (srt R i) (R i) i = pos (srt R i) (R i) j)) (fun x _ => (intOf x).toNat)
      case atStart => exact ⟨i, bs1, ks1, rfl, Nat.le_refl _, Lib.hid (by rw [arr_start]; exact HM.out), HB, Lib.hid rfl⟩
      case round =>
        obtain ⟨j, bs2, ks2, rfl, hji, HM2, HB2, HP⟩ := hrel
        by_cases hj0 : j = 0
        · subst hj0
          have X := Lib.hid (show srt R (i + 1) = arr R i 0 by rw [srt_succ, HP.out, pos_zero])
          have HM3 := Lib.hid (fun a : Nat => (show Tob (wr.drewN a) base (.slice (some ⟨g, 0, none⟩) n cap) n bs2 ks2 (srt R (i + 1)) by rw [X.out]; exact HM2.out.below (bel_drewN (Below.refl _ _) _)))
          go_wp2_with fail
          go_quiet (fail)
          go_wp2_with fail
          go_roundw
          case rel => exact ⟨i + 1, bs2, ks2, by go_num, by omega, by omega, HM3.out _, Lib.hid (bel_drewN HB2.out _)⟩
          case measure => simp [intOf]; omega
        · obtain ⟨q, rfl⟩ : ∃ q, j = q + 1 := ⟨j - 1, by omega⟩
          have hjn : q + 1 < n := by omega
          have hjm : q < n := by omega
          clear hj0
          have t1 : decide (((q + 1 : Nat) : Int) > 0) = true := decide_eq_true (by omega)
          have A1 := Lib.hid (arr_at R i (q + 1) hji)
          have A2 := Lib.hid (show arr R i (q + 1) q = srt R i q from arr_lo R i (q + 1) hji (by omega))
          have m1 : wr.cell? ⟨g, q + 1, none⟩ = some (.slice (some ⟨bs2 (q + 1), 0, none⟩) (arr R i (q + 1) (q + 1)).length (ks2 (q + 1))) := by rw [HM2.out.out.cellAt (q + 1) (by omega), hdv_get _ _ _ _ _ hjn]
          have m2 : wr.cell? ⟨g, q, none⟩ = some (.slice (some ⟨bs2 (q), 0, none⟩) (arr R i (q + 1) (q)).length (ks2 (q))) := by rw [HM2.out.out.cellAt (q) (by omega), hdv_get _ _ _ _ _ hjm]
          have f1 := HM2.out.out.frozenAt (q + 1)
          have f2 := HM2.out.out.frozenAt (q)
          have R1 := own_rd (HM2.out.row (q + 1) hjn)
          have R2 := own_rd (HM2.out.row (q) hjm)
          have SW := fun a : Nat => (HM2.out.below (bel_drewN (Below.refl _ _) a)).swap (q + 1) q hjn hjm (by omega)
          have eSW : stf (stf (arr R i (q + 1)) (q + 1) (arr R i (q + 1) q)) q (arr R i (q + 1) (q + 1)) = arr R i q := arr_swap R i (q + 1) hji (by omega)
          rw [eSW] at SW
          have hl1 : (arr R i (q + 1) (q + 1)).length ≤ 4000 := by rw [A1.out]; exact hL.out i hlt
          have hl2 : (arr R i (q + 1) (q)).length ≤ 4000 := by
            rw [A2.out]
            obtain ⟨y, hy, e⟩ := srt_mem R i (q) (by omega)
            rw [e]; exact hL.out y (by omega)
          have PY := Lib.hid (fun (h : ltL (arr R i (q + 1) (q)) (arr R i (q + 1) (q + 1)) = true) => (show pos (srt R i) (R i) i = pos (srt R i) (R i) (q) by
            rw [A1.out, A2.out] at h
            rw [HP.out]
            exact pos_yes h))
          have PN := Lib.hid (fun (h : ltL (arr R i (q + 1) (q)) (arr R i (q + 1) (q + 1)) = false) => (show srt R (i + 1) = arr R i (q + 1) by
            rw [A1.out, A2.out] at h
            rw [srt_succ, HP.out]
            rw [pos_no h]))
          obtain ⟨xs, hxs⟩ : ∃ xs, arr R i (q + 1) (q + 1) = xs := ⟨_, rfl⟩
          obtain ⟨ys, hys⟩ : ∃ ys, arr R i (q + 1) (q) = ys := ⟨_, rfl⟩
          rw [hxs] at m1 R1 hl1 SW PY PN
          rw [hys] at m2 R2 hl2 SW PY PN
          obtain ⟨b1, hb1⟩ : ∃ b, bs2 (q + 1) = b := ⟨_, rfl⟩
          obtain ⟨b2, hb2⟩ : ∃ b, bs2 (q) = b := ⟨_, rfl⟩
          obtain ⟨k1, hk1⟩ : ∃ b, ks2 (q + 1) = b := ⟨_, rfl⟩
          obtain ⟨k2, hk2⟩ : ∃ b, ks2 (q) = b := ⟨_, rfl⟩
          rw [hb1] at m1 R1 SW
          rw [hb2] at m2 R2 SW
          rw [hk1] at m1 SW
          rw [hk2] at m2 SW
          obtain ⟨n1, hn1⟩ : ∃ n1, xs.length = n1 := ⟨_, rfl⟩
          obtain ⟨n2, hn2⟩ : ∃ n2, ys.length = n2 := ⟨_, rfl⟩
          rw [hn1] at m1 R1 hl1 SW
          rw [hn2] at m2 R2 hl2 SW
          obtain ⟨r, hr⟩ : ∃ r, cmpV ys xs = r := ⟨_, rfl⟩
          have hrl : decide (r < 0) = ltL ys xs := by rw [← hr]; exact cmpV_lt _ _
          have CL := Lib.hid (fun a : Nat => clos_any wr.heap.size (some ⟨b1, 0, none⟩) (some ⟨b2, 0, none⟩) n1 n2 k1 k2 xs ys r hr (wr.drewN a) (R1.below (bel_drewN (Below.refl _ _) a) (Nat.le_refl _)) (R2.below (bel_drewN (Below.refl _ _) a) (Nat.le_refl _)) (by omega) (by omega))
          have SW := Lib.hid SW
          clear R1 R2 hr hxs hys hb1 hb2 hk1 hk2 hn1 hn2
          go_wp2_with fail
          go_quiet ((go_at_call 19; exact quiet_srt (CL.out _)))
          cases hlt2 : ltL ys xs with
          | false =>
            have X := Lib.hid (PN.out hlt2)
            have HM3 := Lib.hid (fun a : Nat => (show Tob (wr.drewN a) base (.slice (some ⟨g, 0, none⟩) n cap) n bs2 ks2 (srt R (i + 1)) by rw [X.out]; exact HM2.out.below (bel_drewN (Below.refl _ _) _)))
            have hr0 : decide (r < 0) = false := by rw [hrl, hlt2]
            clear hrl hlt2
            go_wp2_with fail
            go_roundw
            case rel => exact ⟨i + 1, bs2, ks2, by go_num, by omega, by omega, HM3.out _, Lib.hid (bel_drewN HB2.out _)⟩
            case measure => simp [intOf]; omega
          | true =>
            have PY := Lib.hid (PY.out hlt2)
            have hr0 : decide (r < 0) = true := by rw [hrl, hlt2]
            have hjj : q ≠ q + 1 := by omega
            have SWB := Lib.hid (fun a : Nat => (((bel_drewN HB2.out a).setCell (p := ⟨g, q + 1, none⟩) hgb.1 (.slice (some ⟨b2, 0, none⟩) n2 k2)).setCell (p := ⟨g, q, none⟩) hgb.1 (.slice (some ⟨b1, 0, none⟩) n1 k1)))
            clear hrl hlt2
            go_wp2_with fail
            go_region
            go_wp2_with fail
            go_roundw
            case rel => exact ⟨q, _, _, rfl, by omega, Lib.hid (SW.out _), Lib.hid (SWB.out _), PY⟩
            case measure => simp [intOf]
    · obtain rfl : i = n := by omega
      go_wp2_with fail
      go_end0
      exact ⟨rfl, ⟨bs1, ks1, HM.out⟩, HB.out⟩
end Go.Proofs.Ytojcnncaccnpeaa
