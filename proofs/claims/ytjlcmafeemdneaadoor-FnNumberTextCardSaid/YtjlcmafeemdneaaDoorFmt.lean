/- The contracts of FormatNumber, of the program and of the reference. -/
import Derived.Test.YtjlcmafeemdneaaDoorText
namespace Go.Proofs.YtjlcmafeemdneaaDoor
open Go.RowKit Go.PlainNum

theorem ret_str {a b : List UInt8} (h : a = b) : Ending.returned (.string (S a)) = .returned (.string (S b)) := by rw [h]
theorem add_rit {P : Program} (w : World) (a : List UInt8) (b : ByteArray) (h : a.length + b.data.toList.length ≤ 9223372036854775807) :
    (Op.stringOp .add (S a) b).run P w = .ok (.string (S (a ++ b.data.toList))) w := by
  conv => lhs; rw [S_of b]
  exact add_S w _ _ h
theorem decimal_eq (n : Int) (l : List UInt8) (h0 : 0 ≤ n) (hm : n ≤ 1000000000000) (hl : dg n.toNat = l) (w : World) :
    Calls Tryd.prog 33 #[.int .i64 n] w fun e w' => e = .returned (.string (S l)) ∧ w = w' := by
  subst hl
  exact decimal_ind n.toNat n w (by omega) h0 hm
theorem isNumber_yes (n : Int) (h : 0 ≤ n ∧ n < 1000000271) (w : World) :
    Calls Tryd.prog 32 #[.int .i64 n] w fun e w' => e = .returned (.bool true) ∧ w = w' := by
  have := isNumber_any n w
  rw [decide_eq_true h] at this
  exact this
theorem isNumber_no (n : Int) (h : ¬ (0 ≤ n ∧ n < 1000000271)) (w : World) :
    Calls Tryd.prog 32 #[.int .i64 n] w fun e w' => e = .returned (.bool false) ∧ w = w' := by
  have := isNumber_any n w
  rw [decide_eq_false h] at this
  exact this
theorem sisNumber_yes (n : Int) (h : 0 ≤ n ∧ n < 1000000271) (w : World) :
    Calls Tryd.prog 42 #[.int .i64 n] w fun e w' => e = .returned (.bool true) ∧ w = w' := by
  have := sisNumber_any n w
  rw [decide_eq_true h] at this
  exact this
theorem sisNumber_no (n : Int) (h : ¬ (0 ≤ n ∧ n < 1000000271)) (w : World) :
    Calls Tryd.prog 42 #[.int .i64 n] w fun e w' => e = .returned (.bool false) ∧ w = w' := by
  have := sisNumber_any n w
  rw [decide_eq_false h] at this
  exact this

theorem fmt_no (n : Int) (h : ¬ (0 ≤ n ∧ n < 1000000271)) (w : World) :
    Calls Tryd.prog 14 #[.int .i64 n] w fun e w' => e = .returned (.string (S (fmtL n))) ∧ w = w' := by
  rw [fmtL_no n h]
  go_enter Tryd.func14, Tryd.ntmps14
  go_wp2_with (go_at_call 32; refine (isNumber_no _ h _).mono ?_; rintro e w' ⟨rfl, rfl⟩)
  go_ret
  exact ⟨rfl, rfl⟩

set_option maxRecDepth 100000 in
set_option maxHeartbeats 1000000 in
theorem fmt_yes (n : Int) (h : 0 ≤ n ∧ n < 1000000271) (w : World) :
    Calls Tryd.prog 14 #[.int .i64 n] w fun e w' => e = .returned (.string (S (fmtL n))) ∧ w = w' := by
  rw [fmtL_yes n h]
  obtain ⟨D, hD⟩ : ∃ D, D = fmtGo n 9999 1 := ⟨_, rfl⟩
  rw [← hD]
  have H := Lib.hid hD.symm
  clear hD
  have h0 := h.1
  have h1 := h.2
  have h := Lib.hid h
  go_enter Tryd.func14, Tryd.ntmps14
  go_wp2_with (go_at_call 32; refine (isNumber_yes _ h.out _).mono ?_; rintro e w' ⟨rfl, rfl⟩)
  go_loop [3, 4] (fun a b => ∃ (a' : Int) (b' r : Nat), a = .int .i64 a' ∧ b = .int .i64 (b' + 1 : Nat) ∧ b' + r = 9999 ∧ 0 ≤ a' ∧ a' < 1000000271 ∧ Hid (a' = n * b' % 1000000271 ∧ fmtGo n r (b' + 1) = D))
    (fun _ b => 10001 - (intOf b).toNat)
  case atStart => exact ⟨0, 0, 9999, rfl, rfl, rfl, by omega, by omega, Lib.hid ⟨by simp, H.out⟩⟩
  case round =>
    obtain ⟨a, b, r, rfl, rfl, hr, ha0, ha1, A⟩ := hrel
    clear H h
    by_cases hb : b = 9999
    · subst hb
      obtain rfl : r = 0 := by omega
      have E := Lib.hid (A.out.2)
      have hl := dg_len19 n.toNat (by omega)
      obtain ⟨L, hL⟩ : ∃ L, L = dg n.toNat := ⟨_, rfl⟩
      rw [← hL] at hl
      have HL := Lib.hid hL.symm
      clear hL A
      have s1 := add_lit (P := Tryd.prog) w ⟨#[35]⟩ L (by simp; omega)
      clear hl
      go_wp2_with (go_at_call 33; ((with_reducible refine (decimal_eq n L (by omega) (by omega) HL.out _).mono ?_); rintro e w' ⟨rfl, rfl⟩))
      go_ret
      exact ⟨by rw [← E.out, fmtGo_stop, HL.out]; rfl, rfl⟩
    · obtain ⟨r, rfl⟩ : ∃ r', r = r' + 1 := ⟨r - 1, by omega⟩
      obtain ⟨c, hc⟩ : ∃ c, (a + n) % 1000000271 = c := ⟨_, rfl⟩
      have hc0 : 0 ≤ c := by rw [← hc]; exact mod_lo _
      have hc1 : c < 1000000271 := by rw [← hc]; exact mod_hi _
      have hcn := Lib.hid (show c = n * (b + 1 : Nat) % 1000000271 by rw [← hc, A.out.1, step_mod]; rfl)
      have E := Lib.hid (A.out.2)
      clear A
      have hlb := dg_len19 (b + 1) (by omega)
      obtain ⟨B, hB⟩ : ∃ B, B = dg (b + 1) := ⟨_, rfl⟩
      rw [← hB] at hlb
      have HB := Lib.hid (show dg (((b : Int) + 1).toNat) = B by rw [hB, show ((b : Int) + 1).toNat = b + 1 by omega])
      have HB' := Lib.hid hB.symm
      clear hB
      by_cases k1 : c ≤ 9999
      · have k2 : decide (c ≥ 999990272) = false := by simp; omega
        have k3 : decide (c > 9999) = false := by simp; omega
        have hl := dg_len19 c.toNat (by omega)
        obtain ⟨L, hL⟩ : ∃ L, L = dg c.toNat := ⟨_, rfl⟩
        rw [← hL] at hl
        have HL := Lib.hid hL.symm
        clear hL
        have s1 := add_lit (P := Tryd.prog) w ⟨#[]⟩ L (by simp; omega)
        have s2 := add_rit (P := Tryd.prog) w L ⟨#[47]⟩ (by simp; omega)
        have s3 := add_S (P := Tryd.prog) w (L ++ [47]) B (by simp; omega)
        clear hl hlb
        by_cases b1 : b = 0
        · subst b1
          go_wp2_with (go_at_call 33; ((with_reducible refine (decimal_eq c L (by omega) (by omega) HL.out _).mono ?_); rintro e w' ⟨rfl, rfl⟩))
          go_ret
          exact ⟨by rw [← E.out, fmtGo_pos1 n r c hcn.out k1, HL.out]; rfl, rfl⟩
        · have b2 : ((b : Int) + 1 == 1) = false := by simp; omega
          go_wp2_with (go_at_call 33; first | ((with_reducible refine (decimal_eq c L (by omega) (by omega) HL.out _).mono ?_); rintro e w' ⟨rfl, rfl⟩) | ((with_reducible refine (decimal_eq (b + 1) B (by omega) (by omega) HB.out _).mono ?_); rintro e w' ⟨rfl, rfl⟩))
          go_ret
          exact ⟨ret_str (by rw [← E.out, fmtGo_pos n r (b + 1) c hcn.out k1 (by omega), HL.out, HB'.out]; simp), rfl⟩
      · by_cases k9 : 999990272 ≤ c
        · have k2 : decide (c ≥ 999990272) = true := by simp; omega
          have hl := dg_len19 (1000000271 - c).toNat (by omega)
          obtain ⟨L, hL⟩ : ∃ L, L = dg (1000000271 - c).toNat := ⟨_, rfl⟩
          rw [← hL] at hl
          have HL := Lib.hid hL.symm
          clear hL
          have s1 := add_lit (P := Tryd.prog) w ⟨#[45]⟩ L (by simp; omega)
          have s2 := add_rit (P := Tryd.prog) w (45 :: L) ⟨#[47]⟩ (by simp; omega)
          have s3 := add_S (P := Tryd.prog) w (45 :: (L ++ [47])) B (by simp; omega)
          clear hl hlb
          by_cases b1 : b = 0
          · subst b1
            go_wp2_with (go_at_call 33; ((with_reducible refine (decimal_eq (1000000271 - c) L (by omega) (by omega) HL.out _).mono ?_); rintro e w' ⟨rfl, rfl⟩))
            go_ret
            exact ⟨ret_str (by rw [← E.out, fmtGo_neg1 n r c hcn.out k9, HL.out]), rfl⟩
          · have b2 : ((b : Int) + 1 == 1) = false := by simp; omega
            go_wp2_with (go_at_call 33; first | ((with_reducible refine (decimal_eq (1000000271 - c) L (by omega) (by omega) HL.out _).mono ?_); rintro e w' ⟨rfl, rfl⟩) | ((with_reducible refine (decimal_eq (b + 1) B (by omega) (by omega) HB.out _).mono ?_); rintro e w' ⟨rfl, rfl⟩))
            go_ret
            exact ⟨ret_str (by rw [← E.out, fmtGo_neg n r (b + 1) c hcn.out k9 (by omega), HL.out, HB'.out]; simp), rfl⟩
        · have k2 : decide (c ≥ 999990272) = false := by simp; omega
          have k3 : decide (c > 9999) = true := by simp; omega
          have E' := Lib.hid ((fmtGo_miss n r (b + 1) c hcn.out (by omega) (by omega)).symm.trans E.out)
          clear E hlb
          go_wp2_with fail
          go_round
          case rel => exact ⟨c, b + 1, r, by rw [hc], by go_num, by omega, hc0, hc1, Lib.hid ⟨hcn.out, E'.out⟩⟩
          case measure => simp [intOf]; omega

theorem fmt_any (n : Int) (w : World) :
    Calls Tryd.prog 14 #[.int .i64 n] w fun e w' => e = .returned (.string (S (fmtL n))) ∧ w = w' := by
  by_cases h : 0 ≤ n ∧ n < 1000000271
  · exact fmt_yes n h w
  · exact fmt_no n h w

end Go.Proofs.YtjlcmafeemdneaaDoor
