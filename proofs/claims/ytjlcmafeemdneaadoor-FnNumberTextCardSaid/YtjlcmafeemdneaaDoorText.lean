/- The contracts of the functions that write numbers: decimals, of the program and of the reference. -/
import Derived.Test.YtjlcmafeemdneaaDoorNum
import Derived.Test.YtjlcmafeemdneaaDoorPlainText
namespace Go.Proofs.YtjlcmafeemdneaaDoor
open Go.RowKit Go.PlainNum

theorem add_S {P : Program} (w : World) (a b : List UInt8) (h : a.length + b.length ≤ 9223372036854775807) :
    (Op.stringOp .add (S a) (S b)).run P w = .ok (.string (S (a ++ b))) w := by
  rw [run_string_add_sum w _ _ (by rw [S_size, S_size]; exact h), S_append]
theorem add_lit {P : Program} (w : World) (a : ByteArray) (b : List UInt8) (h : a.data.toList.length + b.length ≤ 9223372036854775807) :
    (Op.stringOp .add a (S b)).run P w = .ok (.string (S (a.data.toList ++ b))) w := by
  conv => lhs; rw [S_of a]
  exact add_S w _ _ h

theorem decimal_ind (k : Nat) : ∀ (n : Int) (w : World), n ≤ k → 0 ≤ n → n ≤ 1000000000000 →
    Calls Tryd.prog 33 #[.int .i64 n] w fun e w' => e = .returned (.string (S (dg n.toNat))) ∧ w = w' := by
  induction k with
  | zero =>
    intro n w hk h0 _
    obtain rfl : n = 0 := by omega
    have H := Lib.hid (show Utf8.encode 48 = S (dg (0 : Int).toNat) by rw [dg_small (by omega)]; exact enc_digit _ 0 (by omega) (by omega))
    go_enter Tryd.func33, Tryd.ntmps33
    go_wp2_with fail
    go_ret
    exact ⟨by rw [← H.out]; rfl, rfl⟩
  | succ k ih =>
    intro n w hk h0 hm
    by_cases hn : n < 10
    · have H := Lib.hid (show Utf8.encode (48 + n) = S (dg n.toNat) by rw [dg_small (by omega)]; exact enc_digit _ n.toNat (by omega) (by omega))
      clear ih hk hm
      go_enter Tryd.func33, Tryd.ntmps33
      go_wp2_with fail
      go_ret
      exact ⟨by rw [← H.out]; rfl, rfl⟩
    · have C := Lib.hid (ih (n / 10) w (by omega) (by omega) (by omega))
      clear ih
      rw [show (n / 10).toNat = n.toNat / 10 by omega] at C
      have E := enc_digit (48 + n % 10) (n.toNat % 10) (by omega) (by omega)
      have hl := dg_len19 (n.toNat / 10) (by omega)
      have A := add_S (P := Tryd.prog) w (dg (n.toNat / 10)) [d1 (n.toNat % 10)] (by simp; omega)
      have D := Lib.hid (dg_big (n := n.toNat) (by omega))
      clear hl hk
      generalize dg (n.toNat / 10) = L at *
      generalize d1 (n.toNat % 10) = c at *
      go_enter Tryd.func33, Tryd.ntmps33
      go_wp2_with (go_at_call 33; refine C.out.mono ?_; rintro e w' ⟨rfl, rfl⟩)
      go_ret
      exact ⟨by rw [D.out]; rfl, rfl⟩

/-- a new slice of one byte, made a text -/
theorem conv_one (w : World) (c : UInt8) (n : Int) (h : n = (c.toNat : Int)) :
    (convert 28 9 (.slice (some ⟨w.heap.size, 0, none⟩) 1 1)).run Tryd.prog (w.alloc (.cells #[.int .u8 n] 5)) = .ok (.string (S [c])) (w.alloc (.cells #[.int .u8 n] 5)) := by
  subst h
  have := run_convert_bytes_back (P := Tryd.prog) (w.alloc (.cells #[.int .u8 (c.toNat : Int)] 5)) 28 9 5 ⟨w.heap.size, 0, none⟩ 1 [c] Tryd.underlying28 Tryd.underlying5 Tryd.underlying9 (by
    intro j hj
    obtain rfl : j = 0 := by simpa using hj
    simp [Addr.add])
  exact this

set_option maxRecDepth 100000 in
set_option maxHeartbeats 400000 in
theorem sdecimal_pos (n : Int) (h0 : 0 < n) (hm : n ≤ 1000000000000) (w : World) :
    Calls Tryd.prog 43 #[.int .i64 n] w fun e w' => e = .returned (.string (S (dg n.toNat))) ∧ Below w.heap.size w w' := by
  have H := Lib.hid (aheadD_start n.toNat (by omega))
  have hz : (n == 0) = false := by simp; omega
  have hneg : decide (n < 0) = false := by simp; omega
  obtain ⟨D, hD⟩ : ∃ D, D = dg n.toNat := ⟨_, rfl⟩
  have hl := dg_len19 n.toNat (by omega)
  rw [← hD] at H hl ⊢
  clear hD
  go_enter Tryd.func43, Tryd.ntmps43
  go_wp2_with fail
  go_loopw [3, 4] (fun s k wr => ∃ (l : List UInt8) (k' : Nat), s = .string (S l) ∧ k = .int .i64 k' ∧ (k' : Int) ≤ n ∧ Hid (aheadD k' l = D) ∧ Below w.heap.size w wr)
    (fun _ k _ => (intOf k).toNat)
  case atStart => exact ⟨[], n.toNat, rfl, by go_num, by omega, H, Below.refl _ _⟩
  case round =>
    obtain ⟨l, k, rfl, rfl, hk, A, B⟩ := hrel
    clear H
    by_cases hk0 : k = 0
    · subst hk0
      go_wp2
      go_ret
      exact ⟨by rw [← A.out, aheadD_zero]; rfl, B⟩
    · have hll := aheadD_len _ _ _ A.out
      have A' := Lib.hid ((aheadD_step k l (by omega)).trans A.out)
      have hc := conv_one wr (d1 (k % 10)) (48 + (k : Int) % 10) (by rw [d1_toNat _ (by omega)]; omega)
      have ha := add_S (P := Tryd.prog) (wr.alloc (.cells #[.int .u8 (48 + (k : Int) % 10)] 5)) [d1 (k % 10)] l (by simp; omega)
      clear A hll hl
      go_wp2_with fail
      go_roundw
      case rel => exact ⟨d1 (k % 10) :: l, k / 10, rfl, by go_num, by omega, A', B.alloc B.size _⟩
      case measure => simp [intOf]; omega

theorem sdecimal_zero (w : World) :
    Calls Tryd.prog 43 #[.int .i64 0] w fun e w' => e = .returned (.string (S (dg 0))) ∧ w = w' := by
  go_enter Tryd.func43, Tryd.ntmps43
  go_wp2_with fail
  refine wp_loop_rounds 1 ?_
  rw [rounds_succ]
  go_wp2
  go_ret
  exact ⟨by rw [dg_small (by omega)]; rfl, rfl⟩

set_option maxRecDepth 100000 in
set_option maxHeartbeats 400000 in
theorem sdecimal_neg (n : Int) (h0 : n < 0) (hm : -1000000000000 ≤ n) (w : World) :
    Calls Tryd.prog 43 #[.int .i64 n] w fun e w' => e = .returned (.string (S (45 :: dg (-n).toNat))) ∧ Below w.heap.size w w' := by
  have H := Lib.hid (aheadD_start (-n).toNat (by omega))
  have hz : (n == 0) = false := by simp; omega
  have hneg : decide (n < 0) = true := by simp; omega
  obtain ⟨D, hD⟩ : ∃ D, D = dg (-n).toNat := ⟨_, rfl⟩
  have hl := dg_len19 (-n).toNat (by omega)
  rw [← hD] at H hl ⊢
  clear hD
  have ha := fun w => add_lit (P := Tryd.prog) w ⟨#[45]⟩ D (by simp; omega)
  have ha := Lib.hid ha
  go_enter Tryd.func43, Tryd.ntmps43
  go_wp2_with fail
  go_loopw [3, 4] (fun s k wr => ∃ (l : List UInt8) (k' : Nat), s = .string (S l) ∧ k = .int .i64 k' ∧ (k' : Int) ≤ -n ∧ Hid (aheadD k' l = D) ∧ Below w.heap.size w wr)
    (fun _ k _ => (intOf k).toNat)
  case atStart => exact ⟨[], (-n).toNat, rfl, by go_num, by omega, H, Below.refl _ _⟩
  case round =>
    obtain ⟨l, k, rfl, rfl, hk, A, B⟩ := hrel
    clear H
    by_cases hk0 : k = 0
    · subst hk0
      rw [aheadD_zero] at A
      obtain rfl := A.out
      have ha := ha.out wr
      go_wp2
      go_ret
      exact ⟨rfl, B⟩
    · have hll := aheadD_len _ _ _ A.out
      have A' := Lib.hid ((aheadD_step k l (by omega)).trans A.out)
      have hc := conv_one wr (d1 (k % 10)) (48 + (k : Int) % 10) (by rw [d1_toNat _ (by omega)]; omega)
      have hb := add_S (P := Tryd.prog) (wr.alloc (.cells #[.int .u8 (48 + (k : Int) % 10)] 5)) [d1 (k % 10)] l (by simp; omega)
      clear A hll hl
      go_wp2_with fail
      go_roundw
      case rel => exact ⟨d1 (k % 10) :: l, k / 10, rfl, by go_num, by omega, A', B.alloc B.size _⟩
      case measure => simp [intOf]; omega
end Go.Proofs.YtjlcmafeemdneaaDoor
