/- The contracts of the functions that read decimals, of the program and of the reference. -/
import Derived.Test.YtjlcmafeemdneaaDoorFmt
import Derived.Test.YtjlcmafeemdneaaDoorSFmt
import Derived.Test.YtjlcmafeemdneaaDoorPlainParse
namespace Go.Proofs.YtjlcmafeemdneaaDoor
open Go.RowKit Go.PlainNum

set_option maxRecDepth 100000 in
set_option maxHeartbeats 1000000 in
theorem l1Digits_some (s : ByteArray) (w : World) (h0 : 0 < s.size) (h1 : s.size ≤ 10) :
    Calls Tryd.prog 38 #[.string s] w fun e w' => e = .returned (.int .i64 (dgo s.data.toList 0)) ∧ w = w' := by
  have t0 : ((s.size : Int) == 0) = false := by rw [beq_eq_false_iff_ne]; omega
  have t1 : decide ((s.size : Int) > 10) = false := decide_eq_false (by omega)
  have t2 : decide (10 < (s.size : Int)) = false := decide_eq_false (by omega)
  obtain ⟨n, hn⟩ : ∃ n, s.size = n := ⟨_, rfl⟩
  rw [hn] at h0 h1 t0 t1 t2
  go_enter Tryd.func38, Tryd.ntmps38
  go_wp2_with fail
  go_loop [3, 4] (fun v i => ∃ k : Nat, ∃ m : Int, v = .int .i64 m ∧ i = .int .i64 k ∧ k ≤ n ∧ 0 ≤ m ∧ m < 10 ^ k ∧ Hid (dgo (s.data.toList.drop k) m = dgo s.data.toList 0)) (fun _ i => n - (intOf i).toNat)
  case atStart => exact ⟨0, 0, rfl, rfl, Nat.zero_le _, by omega, by omega, Lib.hid rfl⟩
  case round =>
    obtain ⟨k, m, rfl, rfl, hk, hm0, hm1, E⟩ := hrel
    have hl : s.data.toList.length = n := by rw [← hn]; exact Array.length_toList
    by_cases hlt : k < n
    · have hp := pow_le k (by omega)
      have hm2 : m < 1000000000 := by omega
      obtain ⟨c, hc⟩ : ∃ c : UInt8, s[k]'(by omega) = c := ⟨_, rfl⟩
      have hget : s.data.toList[k]? = some c := by
        rw [List.getElem?_eq_getElem (by omega), ← hc]
        rfl
      have hs : s.size = n := hn
      have hget := Lib.hid hget
      obtain ⟨d, hd⟩ : ∃ d : Int, ((s[k]'(by omega)).toNat : Int) = d := ⟨_, rfl⟩
      have hcd : Hid ((c.toNat : Int) = d) := Lib.hid (by rw [← hc]; exact hd)
      clear hc
      by_cases d0 : d < 48
      · have R := Lib.hid ((dgo_bad _ k c m hget.out (by have := hcd.out; omega)).symm.trans E.out)
        clear E
        go_wp2_with fail
        go_ret
        exact ⟨by rw [← R.out]; rfl, rfl⟩
      · by_cases d9 : 57 < d
        · have R := Lib.hid ((dgo_bad _ k c m hget.out (by have := hcd.out; omega)).symm.trans E.out)
          clear E
          have d1 : 48 ≤ d := by omega
          go_wp2_with fail
          go_ret
          exact ⟨by rw [← R.out]; rfl, rfl⟩
        · have d1 : 48 ≤ d := by omega
          have d2 : d ≤ 57 := by omega
          have E' := Lib.hid ((dgo_step _ k c m hget.out (by have := hcd.out; omega)).symm.trans E.out)
          rw [hcd.out] at E'
          clear E
          go_wp2_with fail
          go_round
          case rel => exact ⟨k + 1, 10 * m + (d - 48), by go_num, by go_num, by omega, by omega, by rw [Int.pow_succ]; omega, E'⟩
          case measure => simp [intOf]; omega
    · obtain rfl : k = n := by omega
      have R := E.out
      rw [List.drop_of_length_le (by omega), dgo_nil] at R
      have R := Lib.hid R
      clear E
      go_wp2_with fail
      go_ret
      exact ⟨by rw [← R.out]; rfl, rfl⟩

theorem l1Digits_any (s : ByteArray) (w : World) :
    Calls Tryd.prog 38 #[.string s] w fun e w' => e = .returned (.int .i64 (digs s.data.toList)) ∧ w = w' := by
  have hl : s.data.toList.length = s.size := Array.length_toList
  by_cases h : 0 < s.size ∧ s.size ≤ 10
  · rw [digs_yes (by omega) (by omega)]
    exact l1Digits_some s w h.1 h.2
  · rw [digs_no (by omega)]
    obtain ⟨n, hn⟩ : ∃ n, s.size = n := ⟨_, rfl⟩
    rw [hn] at h
    by_cases h0 : n = 0
    · have t0 : ((n : Int) == 0) = true := by rw [beq_iff_eq]; omega
      clear hl h h0
      go_enter Tryd.func38, Tryd.ntmps38
      go_wp2_with fail
      go_ret
      exact ⟨rfl, rfl⟩
    · have t0 : ((n : Int) == 0) = false := by rw [beq_eq_false_iff_ne]; omega
      have t2 : decide (10 < (n : Int)) = true := decide_eq_true (by omega)
      have t1 : decide ((n : Int) > 10) = true := decide_eq_true (by omega)
      have h9 : 10 < n := by omega
      clear hl h h0
      go_enter Tryd.func38, Tryd.ntmps38
      go_wp2_with fail
      go_ret
      exact ⟨rfl, rfl⟩

set_option maxRecDepth 100000 in
set_option maxHeartbeats 1000000 in
theorem readDecimal_any (s : ByteArray) (w : World) :
    Calls Tryd.prog 28 #[.string s] w fun e w' => e = .returned (.int .i64 (rdd s.data.toList)) ∧ w = w' := by
  have hl : s.data.toList.length = s.size := Array.length_toList
  obtain ⟨n, hn⟩ : ∃ n, s.size = n := ⟨_, rfl⟩
  rw [hn] at hl
  by_cases h : 0 < n ∧ n ≤ 10
  · have t0 : ((n : Int) == 0) = false := by rw [beq_eq_false_iff_ne]; omega
    have t1 : decide ((n : Int) > 10) = false := decide_eq_false (by omega)
    have t2 : decide (10 < (n : Int)) = false := decide_eq_false (by omega)
    obtain ⟨h0, h1⟩ := h
    by_cases hone : n = 1
    · have t3 : decide (1 < (n : Int)) = false := decide_eq_false (by omega)
      have t4 : decide ((n : Int) > 1) = false := decide_eq_false (by omega)
      have t5 : n ≤ 1 := by omega
      rw [rdd_one (by omega)]
      clear hl hone
      go_enter Tryd.func28, Tryd.ntmps28
      go_wp2_with fail
      go_loop [3, 25] (fun v i => ∃ k : Nat, ∃ m : Int, v = .int .i64 m ∧ i = .int .i64 k ∧ k ≤ n ∧ 0 ≤ m ∧ m < 10 ^ k ∧ Hid (dgo (s.data.toList.drop k) m = dgo s.data.toList 0)) (fun _ i => n - (intOf i).toNat)
      case atStart => exact ⟨0, 0, rfl, rfl, Nat.zero_le _, by omega, by omega, Lib.hid rfl⟩
      case round =>
        obtain ⟨k, m, rfl, rfl, hk, hm0, hm1, E⟩ := hrel
        have hl : s.data.toList.length = n := by rw [← hn]; exact Array.length_toList
        by_cases hlt : k < n
        · have hp := pow_le k (by omega)
          have hm2 : m < 1000000000 := by omega
          obtain ⟨c, hc⟩ : ∃ c : UInt8, s[k]'(by omega) = c := ⟨_, rfl⟩
          have hget : s.data.toList[k]? = some c := by
            rw [List.getElem?_eq_getElem (by omega), ← hc]
            rfl
          have hs : s.size = n := hn
          have hget := Lib.hid hget
          obtain ⟨d, hd⟩ : ∃ d : Int, ((s[k]'(by omega)).toNat : Int) = d := ⟨_, rfl⟩
          have hcd : Hid ((c.toNat : Int) = d) := Lib.hid (by rw [← hc]; exact hd)
          clear hc
          by_cases d0 : d < 48
          · have R := Lib.hid ((dgo_bad _ k c m hget.out (by have := hcd.out; omega)).symm.trans E.out)
            clear E
            go_wp2_with fail
            go_ret
            exact ⟨by rw [← R.out]; rfl, rfl⟩
          · by_cases d9 : 57 < d
            · have R := Lib.hid ((dgo_bad _ k c m hget.out (by have := hcd.out; omega)).symm.trans E.out)
              clear E
              have d1 : 48 ≤ d := by omega
              go_wp2_with fail
              go_ret
              exact ⟨by rw [← R.out]; rfl, rfl⟩
            · have d1 : 48 ≤ d := by omega
              have d2 : d ≤ 57 := by omega
              have E' := Lib.hid ((dgo_step _ k c m hget.out (by have := hcd.out; omega)).symm.trans E.out)
              rw [hcd.out] at E'
              clear E
              go_wp2_with fail
              go_round
              case rel => exact ⟨k + 1, 10 * m + (d - 48), by go_num, by go_num, by omega, by omega, by rw [Int.pow_succ]; omega, E'⟩
              case measure => simp [intOf]; omega
        · obtain rfl : k = n := by omega
          have R := E.out
          rw [List.drop_of_length_le (by omega), dgo_nil] at R
          have R := Lib.hid R
          clear E
          go_wp2_with fail
          go_ret
          exact ⟨by rw [← R.out]; rfl, rfl⟩
    · have t3 : decide (1 < (n : Int)) = true := decide_eq_true (by omega)
      have t4 : decide ((n : Int) > 1) = true := decide_eq_true (by omega)
      have t5 : 1 < n := by omega
      obtain ⟨d, hd⟩ : ∃ d : Int, ((s[0]'(by omega)).toNat : Int) = d := ⟨_, rfl⟩
      have hget : s.data.toList[0]? = some (s[0]'(by omega)) := by
        rw [List.getElem?_eq_getElem (by omega)]
        rfl
      by_cases hz : d = 48
      · subst hz
        rw [rdd_zero (by omega) (by rw [hget]; congr 1; apply UInt8.toNat_inj.1; have := hd; simp; omega)]
        clear hl hget hone
        go_enter Tryd.func28, Tryd.ntmps28
        go_wp2_with fail
        go_ret
        exact ⟨rfl, rfl⟩
      · have t6 : (d == 48) = false := by rw [beq_eq_false_iff_ne]; exact hz
        rw [rdd_yes (by omega) (by omega) (by rw [hget]; intro q; apply hz; rw [← hd, Option.some.inj q]; rfl)]
        clear hl hget hone
        go_enter Tryd.func28, Tryd.ntmps28
        go_wp2_with fail
        go_loop [3, 25] (fun v i => ∃ k : Nat, ∃ m : Int, v = .int .i64 m ∧ i = .int .i64 k ∧ k ≤ n ∧ 0 ≤ m ∧ m < 10 ^ k ∧ Hid (dgo (s.data.toList.drop k) m = dgo s.data.toList 0)) (fun _ i => n - (intOf i).toNat)
        case atStart => exact ⟨0, 0, rfl, rfl, Nat.zero_le _, by omega, by omega, Lib.hid rfl⟩
        case round =>
          obtain ⟨k, m, rfl, rfl, hk, hm0, hm1, E⟩ := hrel
          have hl : s.data.toList.length = n := by rw [← hn]; exact Array.length_toList
          by_cases hlt : k < n
          · have hp := pow_le k (by omega)
            have hm2 : m < 1000000000 := by omega
            obtain ⟨c, hc⟩ : ∃ c : UInt8, s[k]'(by omega) = c := ⟨_, rfl⟩
            have hget : s.data.toList[k]? = some c := by
              rw [List.getElem?_eq_getElem (by omega), ← hc]
              rfl
            have hs : s.size = n := hn
            have hget := Lib.hid hget
            obtain ⟨d, hd⟩ : ∃ d : Int, ((s[k]'(by omega)).toNat : Int) = d := ⟨_, rfl⟩
            have hcd : Hid ((c.toNat : Int) = d) := Lib.hid (by rw [← hc]; exact hd)
            clear hc
            by_cases d0 : d < 48
            · have R := Lib.hid ((dgo_bad _ k c m hget.out (by have := hcd.out; omega)).symm.trans E.out)
              clear E
              go_wp2_with fail
              go_ret
              exact ⟨by rw [← R.out]; rfl, rfl⟩
            · by_cases d9 : 57 < d
              · have R := Lib.hid ((dgo_bad _ k c m hget.out (by have := hcd.out; omega)).symm.trans E.out)
                clear E
                have d1 : 48 ≤ d := by omega
                go_wp2_with fail
                go_ret
                exact ⟨by rw [← R.out]; rfl, rfl⟩
              · have d1 : 48 ≤ d := by omega
                have d2 : d ≤ 57 := by omega
                have E' := Lib.hid ((dgo_step _ k c m hget.out (by have := hcd.out; omega)).symm.trans E.out)
                rw [hcd.out] at E'
                clear E
                go_wp2_with fail
                go_round
                case rel => exact ⟨k + 1, 10 * m + (d - 48), by go_num, by go_num, by omega, by omega, by rw [Int.pow_succ]; omega, E'⟩
                case measure => simp [intOf]; omega
          · obtain rfl : k = n := by omega
            have R := E.out
            rw [List.drop_of_length_le (by omega), dgo_nil] at R
            have R := Lib.hid R
            clear E
            go_wp2_with fail
            go_ret
            exact ⟨by rw [← R.out]; rfl, rfl⟩
  · rw [rdd_no (by omega)]
    by_cases h0 : n = 0
    · have t0 : ((n : Int) == 0) = true := by rw [beq_iff_eq]; omega
      clear hl h h0
      go_enter Tryd.func28, Tryd.ntmps28
      go_wp2_with fail
      go_ret
      exact ⟨rfl, rfl⟩
    · have t0 : ((n : Int) == 0) = false := by rw [beq_eq_false_iff_ne]; omega
      have t2 : decide (10 < (n : Int)) = true := decide_eq_true (by omega)
      have t1 : decide ((n : Int) > 10) = true := decide_eq_true (by omega)
      have h9 : 10 < n := by omega
      clear hl h h0
      go_enter Tryd.func28, Tryd.ntmps28
      go_wp2_with fail
      go_ret
      exact ⟨rfl, rfl⟩
end Go.Proofs.YtjlcmafeemdneaaDoor
