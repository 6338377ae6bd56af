/- The contract of the reference's FormatNumber. -/
import Derived.Test.YtjlcmafeemdneaaDoorFmt
namespace Go.Proofs.YtjlcmafeemdneaaDoor
open Go.RowKit Go.PlainNum

theorem sdecimal_any (n : Int) (h0 : -1000000000000 ≤ n) (hm : n ≤ 1000000000000) (w : World) (l : List UInt8) (hl : (if n < 0 then 45 :: dg (-n).toNat else dg n.toNat) = l) :
    Calls Tryd.prog 43 #[.int .i64 n] w fun e w' => e = .returned (.string (S l)) ∧ Below w.heap.size w w' := by
  subst hl
  by_cases h1 : n < 0
  · rw [if_pos h1]; exact sdecimal_neg n h1 h0 w
  · rw [if_neg h1]
    by_cases h2 : n = 0
    · subst h2
      exact (sdecimal_zero w).mono fun e w' ⟨h, h'⟩ => ⟨h, h' ▸ Below.refl _ _⟩
    · exact sdecimal_pos n (by omega) hm w

theorem sfmt_no (n : Int) (h : ¬ (0 ≤ n ∧ n < 1000000271)) (w : World) :
    Calls Tryd.prog 21 #[.int .i64 n] w fun e w' => e = .returned (.string (S (fmtL n))) ∧ Below w.heap.size w w' := by
  rw [fmtL_no n h]
  go_enter Tryd.func21, Tryd.ntmps21
  go_wp2_with (go_at_call 42; refine (sisNumber_no _ h _).mono ?_; rintro e w' ⟨rfl, rfl⟩)
  go_ret
  exact ⟨rfl, Below.refl _ _⟩

set_option maxRecDepth 100000 in
set_option maxHeartbeats 1000000 in
theorem sfmt_yes (n : Int) (h : 0 ≤ n ∧ n < 1000000271) (w : World) :
    Calls Tryd.prog 21 #[.int .i64 n] w fun e w' => e = .returned (.string (S (fmtL n))) ∧ Below w.heap.size w w' := by
  rw [fmtL_yes n h]
  obtain ⟨D, hD⟩ : ∃ D, D = fmtGo n 9999 1 := ⟨_, rfl⟩
  rw [← hD]
  have H := Lib.hid hD.symm
  clear hD
  have h0 := h.1
  have h1 := h.2
  have h := Lib.hid h
  go_enter Tryd.func21, Tryd.ntmps21
  go_wp2_with (go_at_call 42; refine (sisNumber_yes _ h.out _).mono ?_; rintro e w' ⟨rfl, rfl⟩)
  go_loop [3] (fun b => ∃ (b' r : Nat), b = .int .i64 (b' + 1 : Nat) ∧ b' + r = 9999 ∧ Hid (fmtGo n r (b' + 1) = D))
    (fun b => 10001 - (intOf b).toNat)
  case atStart => exact ⟨0, 9999, rfl, rfl, H⟩
  case round =>
    obtain ⟨b, r, rfl, hr, A⟩ := hrel
    clear H h
    by_cases hb : b = 9999
    · subst hb
      obtain rfl : r = 0 := by omega
      have E := Lib.hid (A.out)
      have hl := dg_len19 n.toNat (by omega)
      obtain ⟨L, hL⟩ : ∃ L, L = dg n.toNat := ⟨_, rfl⟩
      rw [← hL] at hl
      have HL := Lib.hid (show (if n < 0 then 45 :: dg (-n).toNat else dg n.toNat) = L by rw [if_neg (by omega), hL])
      have HL' := Lib.hid hL.symm
      clear hL A
      have s1 := fun w => add_lit (P := Tryd.prog) w ⟨#[35]⟩ L (by simp; omega)
      clear hl
      go_wp2_with (go_at_call 43; ((with_reducible refine (sdecimal_any n (by omega) (by omega) _ _ HL.out).mono ?_); rintro e w1 ⟨rfl, B1⟩))
      go_ret
      exact ⟨ret_str (by rw [← E.out, fmtGo_stop, HL'.out]), B1⟩
    · obtain ⟨r, rfl⟩ : ∃ r', r = r' + 1 := ⟨r - 1, by omega⟩
      obtain ⟨c, hc⟩ : ∃ c, res (n * ((b : Int) + 1)) = c := ⟨_, rfl⟩
      have hc0 : 0 ≤ c := by rw [← hc]; exact res_lo _
      have hc1 : c < 1000000271 := by rw [← hc]; exact res_hi _
      have hcn := Lib.hid (show c = n * (b + 1 : Nat) % 1000000271 by rw [← hc]; rfl)
      have E := Lib.hid (A.out)
      clear A
      have hlb := dg_len19 (b + 1) (by omega)
      obtain ⟨B, hB⟩ : ∃ B, B = dg (b + 1) := ⟨_, rfl⟩
      rw [← hB] at hlb
      have HB := Lib.hid (show (if (b : Int) + 1 < 0 then 45 :: dg (-((b : Int) + 1)).toNat else dg ((b : Int) + 1).toNat) = B by rw [if_neg (by omega), hB, show ((b : Int) + 1).toNat = b + 1 by omega])
      have HB' := Lib.hid hB.symm
      clear hB
      by_cases k1 : c ≤ 9999
      · have k3 : decide (c > 9999) = false := by simp; omega
        have k2 : decide (c ≥ -9999) = true := by simp; omega
        have hl := dg_len19 c.toNat (by omega)
        obtain ⟨L, hL⟩ : ∃ L, L = dg c.toNat := ⟨_, rfl⟩
        rw [← hL] at hl
        have HL := Lib.hid (show (if c < 0 then 45 :: dg (-c).toNat else dg c.toNat) = L by rw [if_neg (by omega), hL])
        have HL' := Lib.hid hL.symm
        clear hL
        have s2 := fun w => add_rit (P := Tryd.prog) w L ⟨#[47]⟩ (by simp; omega)
        have s3 := fun w => add_S (P := Tryd.prog) w (L ++ [47]) B (by simp; omega)
        clear hl hlb
        by_cases b1 : b = 0
        · subst b1
          have hcA : res (n * 1) = c := hc
          have hcB : res n = c := by rw [← hcA, Int.mul_one]
          go_wp2_with (first | (go_at_call 12; refine (stimes_any _ _ _).mono ?_; rintro e w' ⟨rfl, rfl⟩) | (go_at_call 43; ((with_reducible refine (sdecimal_any c (by omega) (by omega) _ _ HL.out).mono ?_); rintro e w1 ⟨rfl, B1⟩)))
          go_ret
          exact ⟨ret_str (by rw [← E.out, fmtGo_pos1 n r c hcn.out k1, HL'.out]), B1⟩
        · have b2 : ((b : Int) + 1 == 1) = false := by simp; omega
          go_wp2_with (first | (go_at_call 12; refine (stimes_any _ _ _).mono ?_; rintro e w' ⟨rfl, rfl⟩) | (go_at_call 43; first | ((with_reducible refine (sdecimal_any c (by omega) (by omega) _ _ HL.out).mono ?_); rintro e w1 ⟨rfl, B1⟩) | ((with_reducible refine (sdecimal_any (b + 1) (by omega) (by omega) _ _ HB.out).mono ?_); rintro e w2 ⟨rfl, B2⟩)))
          go_ret
          exact ⟨ret_str (by rw [← E.out, fmtGo_pos n r (b + 1) c hcn.out k1 (by omega), HL'.out, HB'.out]; simp), B1.trans (B2.mono B1.size)⟩
      · have k3 : decide (c > 9999) = true := by simp; omega
        by_cases k9 : 999990272 ≤ c
        · have k2 : decide (c - 1000000271 ≥ -9999) = true := by simp; omega
          have hl := dg_len19 (1000000271 - c).toNat (by omega)
          obtain ⟨L, hL⟩ : ∃ L, L = dg (1000000271 - c).toNat := ⟨_, rfl⟩
          rw [← hL] at hl
          have HL := Lib.hid (show (if c - 1000000271 < 0 then 45 :: dg (-(c - 1000000271)).toNat else dg (c - 1000000271).toNat) = 45 :: L by rw [if_pos (by omega), hL, show -(c - 1000000271) = 1000000271 - c by omega])
          have HL' := Lib.hid hL.symm
          clear hL
          have s2 := fun w => add_rit (P := Tryd.prog) w (45 :: L) ⟨#[47]⟩ (by simp; omega)
          have s3 := fun w => add_S (P := Tryd.prog) w (45 :: (L ++ [47])) B (by simp; omega)
          clear hl hlb
          by_cases b1 : b = 0
          · subst b1
            have hcA : res (n * 1) = c := hc
            have hcB : res n = c := by rw [← hcA, Int.mul_one]
            go_wp2_with (first | (go_at_call 12; refine (stimes_any _ _ _).mono ?_; rintro e w' ⟨rfl, rfl⟩) | (go_at_call 43; ((with_reducible refine (sdecimal_any (c - 1000000271) (by omega) (by omega) _ _ HL.out).mono ?_); rintro e w1 ⟨rfl, B1⟩)))
            go_ret
            exact ⟨ret_str (by rw [← E.out, fmtGo_neg1 n r c hcn.out k9, HL'.out]), B1⟩
          · have b2 : ((b : Int) + 1 == 1) = false := by simp; omega
            go_wp2_with (first | (go_at_call 12; refine (stimes_any _ _ _).mono ?_; rintro e w' ⟨rfl, rfl⟩) | (go_at_call 43; first | ((with_reducible refine (sdecimal_any (c - 1000000271) (by omega) (by omega) _ _ HL.out).mono ?_); rintro e w1 ⟨rfl, B1⟩) | ((with_reducible refine (sdecimal_any (b + 1) (by omega) (by omega) _ _ HB.out).mono ?_); rintro e w2 ⟨rfl, B2⟩)))
            go_ret
            exact ⟨ret_str (by rw [← E.out, fmtGo_neg n r (b + 1) c hcn.out k9 (by omega), HL'.out, HB'.out]; simp), B1.trans (B2.mono B1.size)⟩
        · have k2 : decide (c - 1000000271 ≥ -9999) = false := by simp; omega
          have E' := Lib.hid ((fmtGo_miss n r (b + 1) c hcn.out (by omega) (by omega)).symm.trans E.out)
          clear E hlb
          go_wp2_with (go_at_call 12; refine (stimes_any _ _ _).mono ?_; rintro e w' ⟨rfl, rfl⟩)
          go_round
          case rel => exact ⟨b + 1, r, by go_num, by omega, E'⟩
          case measure => simp [intOf]; omega

theorem sfmt_any (n : Int) (w : World) :
    Calls Tryd.prog 21 #[.int .i64 n] w fun e w' => e = .returned (.string (S (fmtL n))) ∧ Below w.heap.size w w' := by
  by_cases h : 0 ≤ n ∧ n < 1000000271
  · exact sfmt_yes n h w
  · exact sfmt_no n h w
end Go.Proofs.YtjlcmafeemdneaaDoor
