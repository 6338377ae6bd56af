/- The contract of ParseNumber of the program. -/
import Derived.Test.YtjlcmafeemdneaaDoorParseN
namespace Go.Proofs.YtjlcmafeemdneaaDoor
open Go.RowKit Go.PlainNum

theorem hasPrefix_is (s : ByteArray) (b : Bool) (h : Lib.hasPrefix s.data.toList [35] = b) (w : World) :
    Calls Tryd.prog 27 #[.string s, .string ⟨#[35]⟩] w fun e w' => e = .returned (.bool b) ∧ w = w' :=
  (Tryd.strings_HasPrefix s ⟨#[35]⟩ w).mono fun e w' ⟨he, hw⟩ => ⟨by rw [he]; exact congrArg (fun b => Ending.returned (.bool b)) h, hw.symm⟩
theorem trimPrefix_is (s : ByteArray) (t : List UInt8) (h : Lib.trimPrefix s.data.toList [45] = t) (w : World) :
    Calls Tryd.prog 29 #[.string s, .string ⟨#[45]⟩] w fun e w' => e = .returned (.string (S t)) ∧ w = w' :=
  (Tryd.strings_TrimPrefix s ⟨#[45]⟩ w).mono fun e w' ⟨he, hw⟩ => ⟨by rw [he, S_def]; exact congrArg (fun l : List UInt8 => Ending.returned (.string ⟨l.toArray⟩)) h, hw.symm⟩
theorem cut_is (t x y : List UInt8) (b : Bool) (h : Lib.cut t [47] = (x, y, b)) (m : Int) (w : World) (hs : t.length ≤ 2000000) (hm : w.cell? ⟨0, 0, none⟩ = some (.int .i64 m)) :
    Calls Tryd.prog 30 #[.string (S t), .string ⟨#[47]⟩] w fun e w' => e = .returned (.tuple #[.string (S x), .string (S y), .bool b]) ∧ ∃ n, w' = w.drewN n := by
  have c := Tryd.strings_Cut (S t) ⟨#[47]⟩ m w (by rw [S_size]; omega) hm
  have e : Lib.cut (S t).data.toList (⟨#[47]⟩ : ByteArray).data.toList = (x, y, b) := by rw [S_toList]; exact h
  rw [e] at c
  rw [S_def x, S_def y]
  exact c
theorem rdd_is (l : List UInt8) (a : Int) (h : rdd l = a) (w : World) :
    Calls Tryd.prog 28 #[.string (S l)] w fun e w' => e = .returned (.int .i64 a) ∧ w = w' := by
  have c := readDecimal_any (S l) w
  rw [S_toList, h] at c
  exact c
theorem rdd_at (s : ByteArray) (a : Int) (h : rdd s.data.toList = a) (w : World) :
    Calls Tryd.prog 28 #[.string s] w fun e w' => e = .returned (.int .i64 a) ∧ w = w' := by
  rw [← h]
  exact readDecimal_any s w
theorem fr_is (a b n : Int) (h : fr a b = n) (w : World) :
    Calls Tryd.prog 20 #[.int .i64 a, .int .i64 b] w fun e w' => e = .returned (.int .i64 n) ∧ w = w' := by
  rw [← h, fr_def]
  exact fraction_any a b w
theorem neg_is (x a n : Int) (hx : Value.int .i64 x = .int .i64 a) (h : res a = n) (w : World) :
    Calls Tryd.prog 31 #[.int .i64 x] w fun e w' => e = .returned (.int .i64 n) ∧ w = w' := by
  obtain rfl : x = a := by simpa using hx
  rw [← h]
  exact residue_any x w
theorem fmt_is (n : Int) (s : ByteArray) (h : fmtL n = s.data.toList) (w : World) :
    Calls Tryd.prog 14 #[.int .i64 n] w fun e w' => e = .returned (.string s) ∧ w = w' :=
  (fmt_any n w).mono fun e w' ⟨he, hb⟩ => ⟨by rw [he, h, S_data], hb⟩
theorem fmt_not (n : Int) (s : ByteArray) (h : ¬ fmtL n = s.data.toList) (w : World) :
    Calls Tryd.prog 14 #[.int .i64 n] w fun e w' => ∃ x : ByteArray, e = .returned (.string x) ∧ (x.toList == s.toList) = false ∧ w = w' :=
  (fmt_any n w).mono fun e w' ⟨he, hb⟩ => ⟨_, he, by rw [ByteArray.toList_eq, ByteArray.toList_eq, beq_eq_false_iff_ne, S_toList]; exact h, hb⟩
theorem prefix_yes (l : List UInt8) (c : UInt8) (h : l[0]? = some c) : Lib.hasPrefix l [c] = true := by
  cases l with
  | nil => simp at h
  | cons x r => obtain rfl : x = c := by simpa using h
                simp [Lib.hasPrefix, List.isPrefixOf]
theorem prefix_no (l : List UInt8) (c : UInt8) (h : l[0]? ≠ some c) : Lib.hasPrefix l [c] = false := by
  cases l with
  | nil => rfl
  | cons x r =>
    have hx : ¬ x = c := fun e => h (by rw [e]; rfl)
    simp [Lib.hasPrefix, List.isPrefixOf]
    exact fun e => hx e.symm
theorem trim_tl (l : List UInt8) : Lib.trimPrefix l [45] = tl l := by
  unfold Lib.trimPrefix tl
  by_cases h : l[0]? = some 45
  · rw [prefix_yes l 45 h, if_pos rfl, if_pos h]; rfl
  · rw [prefix_no l 45 h, if_neg (by simp), if_neg h]

set_option maxRecDepth 100000 in
set_option maxHeartbeats 3000000 in
theorem parse_pos1 (s : ByteArray) (m : Int) (w : World) (hs : s.size ≤ 2000000) (hm : w.cell? ⟨0, 0, none⟩ = some (.int .i64 m)) (h35 : s.data.toList[0]? ≠ some 35) (h45 : s.data.toList[0]? ≠ some 45)
    (x y : List UInt8) (hc : Lib.cut (tl s.data.toList) [47] = (x, y, false)) :
    Calls Tryd.prog 13 #[.string s] w fun e w' => e = .returned (.tuple #[.int .i64 (pir s.data.toList).1, .bool (pir s.data.toList).2]) ∧ Below w.heap.size w w' := by
  obtain ⟨t, ht⟩ : ∃ t, tl s.data.toList = t := ⟨_, rfl⟩
  have hP := Lib.hid (prefix_no _ 35 h35)
  have hT : Hid (Lib.trimPrefix s.data.toList [45] = t) := Lib.hid (by rw [trim_tl]; exact ht)
  have hl : s.data.toList.length = s.size := Array.length_toList
  have htl : t.length = s.size := by
    rw [← ht]; unfold tl; rw [if_neg h45]; omega
  skip
  have hts : t.length ≤ 2000000 := by omega
  have hSz : (S t).size = s.size := by rw [S_size]; exact htl
  have tlen : decide ((((S t).size : Nat) : Int) < (s.size : Int)) = false := decide_eq_false (by rw [hSz]; omega)
  have tlen2 : ¬ ((S t).size < s.size) := by omega
  obtain ⟨a, ha⟩ : ∃ a, rdd x = a := ⟨_, rfl⟩
  have eA : qA s.data.toList = a := by unfold qA; rw [hc]; exact ha
  have eB : qB s.data.toList = 1 := by unfold qB; rw [hc]; rfl
  rw [ht] at hc
  have hC := Lib.hid hc
  have hA := Lib.hid ha
  have bad := fun h => pir_bad h35 h
  have good := fun h1 h2 => pir_pos h35 h1 h2 h45
  rw [eA, eB] at bad good
  clear hc ha ht eA eB h35 h45 htl hl hSz
  by_cases ha : a < 0
  · have R := bad (Or.inl ha)
    have t1 : decide (a < 0) = true := decide_eq_true ha
    clear bad good
    rw [R]
    clear R
    go_enter Tryd.func13, Tryd.ntmps13
    go_wp2_with (first | (go_at_call 27; refine (hasPrefix_is s _ hP.out _).mono ?_; rintro e w' ⟨rfl, rfl⟩) | (go_at_call 29; refine (trimPrefix_is s t hT.out _).mono ?_; rintro e w' ⟨rfl, rfl⟩) | (go_at_call 30; refine (cut_is t x y _ hC.out m _ hts hm).mono ?_; rintro e w' ⟨rfl, k, rfl⟩) | (go_at_call 28; with_reducible refine (rdd_is x a hA.out _).mono ?_; rintro e w' ⟨rfl, rfl⟩))
    go_ret2
    exact ⟨rfl, bel_drewN (Below.refl _ _) _⟩
  · have t1 : decide (a < 0) = false := decide_eq_false ha
    have R := good (by omega) (by omega)
    obtain ⟨n0, hn⟩ : ∃ n, fr a 1 = n := ⟨_, rfl⟩
    have n0lo : 0 ≤ n0 := by rw [← hn]; exact fr_lo _ _
    have n0hi : n0 < 1000000271 := by rw [← hn, fr_def]; exact res_hi _
    rw [hn] at R
    have hN := Lib.hid hn
    obtain ⟨n, hnn⟩ : ∃ n, n0 = n := ⟨_, rfl⟩
    subst hnn
    have nlo := n0lo
    have t5 : decide (n0 < 0) = false := decide_eq_false (by omega)
    clear bad good hn
    rcases fin_case s.data.toList n0 with ⟨h1, h2⟩ | ⟨h1, h2⟩
    · rw [h2] at R
      rw [R]
      have h1 := Lib.hid h1
      clear R h2
      go_enter Tryd.func13, Tryd.ntmps13
      go_wp2_with (first | (go_at_call 27; refine (hasPrefix_is s _ hP.out _).mono ?_; rintro e w' ⟨rfl, rfl⟩) | (go_at_call 29; refine (trimPrefix_is s t hT.out _).mono ?_; rintro e w' ⟨rfl, rfl⟩) | (go_at_call 30; refine (cut_is t x y _ hC.out m _ hts hm).mono ?_; rintro e w' ⟨rfl, k, rfl⟩) | (go_at_call 28; with_reducible refine (rdd_is x a hA.out _).mono ?_; rintro e w' ⟨rfl, rfl⟩) | (go_at_call 20; refine (fr_is _ _ _ hN.out _).mono ?_; rintro e w' ⟨rfl, rfl⟩) | (go_at_call 14; refine (fmt_is n0 s h1.out _).mono ?_; rintro e w' ⟨rfl, rfl⟩))
      go_ret2
      exact ⟨rfl, bel_drewN (Below.refl _ _) _⟩
    · rw [h2] at R
      rw [R]
      have h1 := Lib.hid h1
      clear R h2
      go_enter Tryd.func13, Tryd.ntmps13
      go_wp2_with (first | (go_at_call 27; refine (hasPrefix_is s _ hP.out _).mono ?_; rintro e w' ⟨rfl, rfl⟩) | (go_at_call 29; refine (trimPrefix_is s t hT.out _).mono ?_; rintro e w' ⟨rfl, rfl⟩) | (go_at_call 30; refine (cut_is t x y _ hC.out m _ hts hm).mono ?_; rintro e w' ⟨rfl, k, rfl⟩) | (go_at_call 28; with_reducible refine (rdd_is x a hA.out _).mono ?_; rintro e w' ⟨rfl, rfl⟩) | (go_at_call 20; refine (fr_is _ _ _ hN.out _).mono ?_; rintro e w' ⟨rfl, rfl⟩) | (go_at_call 14; refine (fmt_not n0 s h1.out _).mono ?_; rintro e w' ⟨x9, rfl, hxs, rfl⟩))
      go_ret2
      exact ⟨rfl, bel_drewN (Below.refl _ _) _⟩

set_option maxRecDepth 100000 in
set_option maxHeartbeats 3000000 in
theorem parse_pos2 (s : ByteArray) (m : Int) (w : World) (hs : s.size ≤ 2000000) (hm : w.cell? ⟨0, 0, none⟩ = some (.int .i64 m)) (h35 : s.data.toList[0]? ≠ some 35) (h45 : s.data.toList[0]? ≠ some 45)
    (x y : List UInt8) (hc : Lib.cut (tl s.data.toList) [47] = (x, y, true)) :
    Calls Tryd.prog 13 #[.string s] w fun e w' => e = .returned (.tuple #[.int .i64 (pir s.data.toList).1, .bool (pir s.data.toList).2]) ∧ Below w.heap.size w w' := by
  obtain ⟨t, ht⟩ : ∃ t, tl s.data.toList = t := ⟨_, rfl⟩
  have hP := Lib.hid (prefix_no _ 35 h35)
  have hT : Hid (Lib.trimPrefix s.data.toList [45] = t) := Lib.hid (by rw [trim_tl]; exact ht)
  have hl : s.data.toList.length = s.size := Array.length_toList
  have htl : t.length = s.size := by
    rw [← ht]; unfold tl; rw [if_neg h45]; omega
  skip
  have hts : t.length ≤ 2000000 := by omega
  have hSz : (S t).size = s.size := by rw [S_size]; exact htl
  have tlen : decide ((((S t).size : Nat) : Int) < (s.size : Int)) = false := decide_eq_false (by rw [hSz]; omega)
  have tlen2 : ¬ ((S t).size < s.size) := by omega
  obtain ⟨a, ha⟩ : ∃ a, rdd x = a := ⟨_, rfl⟩
  have eA : qA s.data.toList = a := by unfold qA; rw [hc]; exact ha
  obtain ⟨b, hb⟩ : ∃ b, rdd y = b := ⟨_, rfl⟩
  have eB : qB s.data.toList = b := by unfold qB; rw [hc]; exact hb
  have hB := Lib.hid hb
  rw [ht] at hc
  have hC := Lib.hid hc
  have hA := Lib.hid ha
  have bad := fun h => pir_bad h35 h
  have good := fun h1 h2 => pir_pos h35 h1 h2 h45
  rw [eA, eB] at bad good
  clear hc ha hb ht eA eB h35 h45 htl hl hSz
  by_cases ha : a < 0
  · have R := bad (Or.inl ha)
    have t1 : decide (a < 0) = true := decide_eq_true ha
    clear bad good
    rw [R]
    clear R
    go_enter Tryd.func13, Tryd.ntmps13
    go_wp2_with (first | (go_at_call 27; refine (hasPrefix_is s _ hP.out _).mono ?_; rintro e w' ⟨rfl, rfl⟩) | (go_at_call 29; refine (trimPrefix_is s t hT.out _).mono ?_; rintro e w' ⟨rfl, rfl⟩) | (go_at_call 30; refine (cut_is t x y _ hC.out m _ hts hm).mono ?_; rintro e w' ⟨rfl, k, rfl⟩) | (go_at_call 28; with_reducible refine (rdd_is y b hB.out _).mono ?_; rintro e w' ⟨rfl, rfl⟩) | (go_at_call 28; with_reducible refine (rdd_is x a hA.out _).mono ?_; rintro e w' ⟨rfl, rfl⟩))
    go_ret2
    exact ⟨rfl, bel_drewN (Below.refl _ _) _⟩
  · have t1 : decide (a < 0) = false := decide_eq_false ha
    by_cases hb : b < 1
    · have R := bad (Or.inr hb)
      have t2 : decide (b < 1) = true := decide_eq_true hb
      clear bad good
      rw [R]
      clear R
      go_enter Tryd.func13, Tryd.ntmps13
      go_wp2_with (first | (go_at_call 27; refine (hasPrefix_is s _ hP.out _).mono ?_; rintro e w' ⟨rfl, rfl⟩) | (go_at_call 29; refine (trimPrefix_is s t hT.out _).mono ?_; rintro e w' ⟨rfl, rfl⟩) | (go_at_call 30; refine (cut_is t x y _ hC.out m _ hts hm).mono ?_; rintro e w' ⟨rfl, k, rfl⟩) | (go_at_call 28; with_reducible refine (rdd_is y b hB.out _).mono ?_; rintro e w' ⟨rfl, rfl⟩) | (go_at_call 28; with_reducible refine (rdd_is x a hA.out _).mono ?_; rintro e w' ⟨rfl, rfl⟩))
      go_ret2
      exact ⟨rfl, bel_drewN (Below.refl _ _) _⟩
    · have t2 : decide (b < 1) = false := decide_eq_false hb
      have R := good (by omega) (by omega)
      obtain ⟨n0, hn⟩ : ∃ n, fr a b = n := ⟨_, rfl⟩
      have n0lo : 0 ≤ n0 := by rw [← hn]; exact fr_lo _ _
      have n0hi : n0 < 1000000271 := by rw [← hn, fr_def]; exact res_hi _
      rw [hn] at R
      have hN := Lib.hid hn
      obtain ⟨n, hnn⟩ : ∃ n, n0 = n := ⟨_, rfl⟩
      subst hnn
      have nlo := n0lo
      have t5 : decide (n0 < 0) = false := decide_eq_false (by omega)
      clear bad good hn
      rcases fin_case s.data.toList n0 with ⟨h1, h2⟩ | ⟨h1, h2⟩
      · rw [h2] at R
        rw [R]
        have h1 := Lib.hid h1
        clear R h2
        go_enter Tryd.func13, Tryd.ntmps13
        go_wp2_with (first | (go_at_call 27; refine (hasPrefix_is s _ hP.out _).mono ?_; rintro e w' ⟨rfl, rfl⟩) | (go_at_call 29; refine (trimPrefix_is s t hT.out _).mono ?_; rintro e w' ⟨rfl, rfl⟩) | (go_at_call 30; refine (cut_is t x y _ hC.out m _ hts hm).mono ?_; rintro e w' ⟨rfl, k, rfl⟩) | (go_at_call 28; with_reducible refine (rdd_is y b hB.out _).mono ?_; rintro e w' ⟨rfl, rfl⟩) | (go_at_call 28; with_reducible refine (rdd_is x a hA.out _).mono ?_; rintro e w' ⟨rfl, rfl⟩) | (go_at_call 20; refine (fr_is _ _ _ hN.out _).mono ?_; rintro e w' ⟨rfl, rfl⟩) | (go_at_call 14; refine (fmt_is n0 s h1.out _).mono ?_; rintro e w' ⟨rfl, rfl⟩))
        go_ret2
        exact ⟨rfl, bel_drewN (Below.refl _ _) _⟩
      · rw [h2] at R
        rw [R]
        have h1 := Lib.hid h1
        clear R h2
        go_enter Tryd.func13, Tryd.ntmps13
        go_wp2_with (first | (go_at_call 27; refine (hasPrefix_is s _ hP.out _).mono ?_; rintro e w' ⟨rfl, rfl⟩) | (go_at_call 29; refine (trimPrefix_is s t hT.out _).mono ?_; rintro e w' ⟨rfl, rfl⟩) | (go_at_call 30; refine (cut_is t x y _ hC.out m _ hts hm).mono ?_; rintro e w' ⟨rfl, k, rfl⟩) | (go_at_call 28; with_reducible refine (rdd_is y b hB.out _).mono ?_; rintro e w' ⟨rfl, rfl⟩) | (go_at_call 28; with_reducible refine (rdd_is x a hA.out _).mono ?_; rintro e w' ⟨rfl, rfl⟩) | (go_at_call 20; refine (fr_is _ _ _ hN.out _).mono ?_; rintro e w' ⟨rfl, rfl⟩) | (go_at_call 14; refine (fmt_not n0 s h1.out _).mono ?_; rintro e w' ⟨x9, rfl, hxs, rfl⟩))
        go_ret2
        exact ⟨rfl, bel_drewN (Below.refl _ _) _⟩

set_option maxRecDepth 100000 in
set_option maxHeartbeats 3000000 in
theorem parse_neg1 (s : ByteArray) (m : Int) (w : World) (hs : s.size ≤ 2000000) (hm : w.cell? ⟨0, 0, none⟩ = some (.int .i64 m)) (h35 : s.data.toList[0]? ≠ some 35) (h45 : s.data.toList[0]? = some 45)
    (x y : List UInt8) (hc : Lib.cut (tl s.data.toList) [47] = (x, y, false)) :
    Calls Tryd.prog 13 #[.string s] w fun e w' => e = .returned (.tuple #[.int .i64 (pir s.data.toList).1, .bool (pir s.data.toList).2]) ∧ Below w.heap.size w w' := by
  obtain ⟨t, ht⟩ : ∃ t, tl s.data.toList = t := ⟨_, rfl⟩
  have hP := Lib.hid (prefix_no _ 35 h35)
  have hT : Hid (Lib.trimPrefix s.data.toList [45] = t) := Lib.hid (by rw [trim_tl]; exact ht)
  have hl : s.data.toList.length = s.size := Array.length_toList
  have htl : t.length = s.size - 1 := by
    rw [← ht]; unfold tl; rw [if_pos h45, List.length_drop]; omega
  have hsz : 0 < s.size := by rw [← hl]; rcases Nat.eq_zero_or_pos s.data.toList.length with h | h; (rw [List.eq_nil_of_length_eq_zero h] at h45; simp at h45); exact h
  have hts : t.length ≤ 2000000 := by omega
  have hSz : (S t).size = s.size - 1 := by rw [S_size]; exact htl
  have tlen : decide ((((S t).size : Nat) : Int) < (s.size : Int)) = true := decide_eq_true (by rw [hSz]; omega)
  have tlen2 : ((S t).size < s.size) := by omega
  obtain ⟨a, ha⟩ : ∃ a, rdd x = a := ⟨_, rfl⟩
  have eA : qA s.data.toList = a := by unfold qA; rw [hc]; exact ha
  have eB : qB s.data.toList = 1 := by unfold qB; rw [hc]; rfl
  rw [ht] at hc
  have hC := Lib.hid hc
  have hA := Lib.hid ha
  have bad := fun h => pir_bad h35 h
  have good := fun h1 h2 => pir_neg h35 h1 h2 h45
  rw [eA, eB] at bad good
  clear hc ha ht eA eB h35 h45 htl hl hSz
  by_cases ha : a < 0
  · have R := bad (Or.inl ha)
    have t1 : decide (a < 0) = true := decide_eq_true ha
    clear bad good
    rw [R]
    clear R
    go_enter Tryd.func13, Tryd.ntmps13
    go_wp2_with (first | (go_at_call 27; refine (hasPrefix_is s _ hP.out _).mono ?_; rintro e w' ⟨rfl, rfl⟩) | (go_at_call 29; refine (trimPrefix_is s t hT.out _).mono ?_; rintro e w' ⟨rfl, rfl⟩) | (go_at_call 30; refine (cut_is t x y _ hC.out m _ hts hm).mono ?_; rintro e w' ⟨rfl, k, rfl⟩) | (go_at_call 28; with_reducible refine (rdd_is x a hA.out _).mono ?_; rintro e w' ⟨rfl, rfl⟩))
    go_ret2
    exact ⟨rfl, bel_drewN (Below.refl _ _) _⟩
  · have t1 : decide (a < 0) = false := decide_eq_false ha
    have R := good (by omega) (by omega)
    obtain ⟨n0, hn⟩ : ∃ n, fr a 1 = n := ⟨_, rfl⟩
    have n0lo : 0 ≤ n0 := by rw [← hn]; exact fr_lo _ _
    have n0hi : n0 < 1000000271 := by rw [← hn, fr_def]; exact res_hi _
    rw [hn] at R
    have hN := Lib.hid hn
    obtain ⟨n, hg⟩ : ∃ n, res (-n0) = n := ⟨_, rfl⟩
    have nlo : 0 ≤ n := by rw [← hg]; exact res_lo _
    rw [hg] at R
    have hG := Lib.hid hg
    clear hg
    have t5 : decide (n < 0) = false := decide_eq_false (by omega)
    clear bad good hn
    rcases fin_case s.data.toList n with ⟨h1, h2⟩ | ⟨h1, h2⟩
    · rw [h2] at R
      rw [R]
      have h1 := Lib.hid h1
      clear R h2
      go_enter Tryd.func13, Tryd.ntmps13
      go_wp2_with (first | (go_at_call 27; refine (hasPrefix_is s _ hP.out _).mono ?_; rintro e w' ⟨rfl, rfl⟩) | (go_at_call 29; refine (trimPrefix_is s t hT.out _).mono ?_; rintro e w' ⟨rfl, rfl⟩) | (go_at_call 30; refine (cut_is t x y _ hC.out m _ hts hm).mono ?_; rintro e w' ⟨rfl, k, rfl⟩) | (go_at_call 28; with_reducible refine (rdd_is x a hA.out _).mono ?_; rintro e w' ⟨rfl, rfl⟩) | (go_at_call 20; refine (fr_is _ _ _ hN.out _).mono ?_; rintro e w' ⟨rfl, rfl⟩) | (go_at_call 31; refine (neg_is _ _ _ (by go_num) hG.out _).mono ?_; rintro e w' ⟨rfl, rfl⟩) | (go_at_call 14; refine (fmt_is n s h1.out _).mono ?_; rintro e w' ⟨rfl, rfl⟩))
      go_ret2
      exact ⟨rfl, bel_drewN (Below.refl _ _) _⟩
    · rw [h2] at R
      rw [R]
      have h1 := Lib.hid h1
      clear R h2
      go_enter Tryd.func13, Tryd.ntmps13
      go_wp2_with (first | (go_at_call 27; refine (hasPrefix_is s _ hP.out _).mono ?_; rintro e w' ⟨rfl, rfl⟩) | (go_at_call 29; refine (trimPrefix_is s t hT.out _).mono ?_; rintro e w' ⟨rfl, rfl⟩) | (go_at_call 30; refine (cut_is t x y _ hC.out m _ hts hm).mono ?_; rintro e w' ⟨rfl, k, rfl⟩) | (go_at_call 28; with_reducible refine (rdd_is x a hA.out _).mono ?_; rintro e w' ⟨rfl, rfl⟩) | (go_at_call 20; refine (fr_is _ _ _ hN.out _).mono ?_; rintro e w' ⟨rfl, rfl⟩) | (go_at_call 31; refine (neg_is _ _ _ (by go_num) hG.out _).mono ?_; rintro e w' ⟨rfl, rfl⟩) | (go_at_call 14; refine (fmt_not n s h1.out _).mono ?_; rintro e w' ⟨x9, rfl, hxs, rfl⟩))
      go_ret2
      exact ⟨rfl, bel_drewN (Below.refl _ _) _⟩

set_option maxRecDepth 100000 in
set_option maxHeartbeats 3000000 in
theorem parse_neg2 (s : ByteArray) (m : Int) (w : World) (hs : s.size ≤ 2000000) (hm : w.cell? ⟨0, 0, none⟩ = some (.int .i64 m)) (h35 : s.data.toList[0]? ≠ some 35) (h45 : s.data.toList[0]? = some 45)
    (x y : List UInt8) (hc : Lib.cut (tl s.data.toList) [47] = (x, y, true)) :
    Calls Tryd.prog 13 #[.string s] w fun e w' => e = .returned (.tuple #[.int .i64 (pir s.data.toList).1, .bool (pir s.data.toList).2]) ∧ Below w.heap.size w w' := by
  obtain ⟨t, ht⟩ : ∃ t, tl s.data.toList = t := ⟨_, rfl⟩
  have hP := Lib.hid (prefix_no _ 35 h35)
  have hT : Hid (Lib.trimPrefix s.data.toList [45] = t) := Lib.hid (by rw [trim_tl]; exact ht)
  have hl : s.data.toList.length = s.size := Array.length_toList
  have htl : t.length = s.size - 1 := by
    rw [← ht]; unfold tl; rw [if_pos h45, List.length_drop]; omega
  have hsz : 0 < s.size := by rw [← hl]; rcases Nat.eq_zero_or_pos s.data.toList.length with h | h; (rw [List.eq_nil_of_length_eq_zero h] at h45; simp at h45); exact h
  have hts : t.length ≤ 2000000 := by omega
  have hSz : (S t).size = s.size - 1 := by rw [S_size]; exact htl
  have tlen : decide ((((S t).size : Nat) : Int) < (s.size : Int)) = true := decide_eq_true (by rw [hSz]; omega)
  have tlen2 : ((S t).size < s.size) := by omega
  obtain ⟨a, ha⟩ : ∃ a, rdd x = a := ⟨_, rfl⟩
  have eA : qA s.data.toList = a := by unfold qA; rw [hc]; exact ha
  obtain ⟨b, hb⟩ : ∃ b, rdd y = b := ⟨_, rfl⟩
  have eB : qB s.data.toList = b := by unfold qB; rw [hc]; exact hb
  have hB := Lib.hid hb
  rw [ht] at hc
  have hC := Lib.hid hc
  have hA := Lib.hid ha
  have bad := fun h => pir_bad h35 h
  have good := fun h1 h2 => pir_neg h35 h1 h2 h45
  rw [eA, eB] at bad good
  clear hc ha hb ht eA eB h35 h45 htl hl hSz
  by_cases ha : a < 0
  · have R := bad (Or.inl ha)
    have t1 : decide (a < 0) = true := decide_eq_true ha
    clear bad good
    rw [R]
    clear R
    go_enter Tryd.func13, Tryd.ntmps13
    go_wp2_with (first | (go_at_call 27; refine (hasPrefix_is s _ hP.out _).mono ?_; rintro e w' ⟨rfl, rfl⟩) | (go_at_call 29; refine (trimPrefix_is s t hT.out _).mono ?_; rintro e w' ⟨rfl, rfl⟩) | (go_at_call 30; refine (cut_is t x y _ hC.out m _ hts hm).mono ?_; rintro e w' ⟨rfl, k, rfl⟩) | (go_at_call 28; with_reducible refine (rdd_is y b hB.out _).mono ?_; rintro e w' ⟨rfl, rfl⟩) | (go_at_call 28; with_reducible refine (rdd_is x a hA.out _).mono ?_; rintro e w' ⟨rfl, rfl⟩))
    go_ret2
    exact ⟨rfl, bel_drewN (Below.refl _ _) _⟩
  · have t1 : decide (a < 0) = false := decide_eq_false ha
    by_cases hb : b < 1
    · have R := bad (Or.inr hb)
      have t2 : decide (b < 1) = true := decide_eq_true hb
      clear bad good
      rw [R]
      clear R
      go_enter Tryd.func13, Tryd.ntmps13
      go_wp2_with (first | (go_at_call 27; refine (hasPrefix_is s _ hP.out _).mono ?_; rintro e w' ⟨rfl, rfl⟩) | (go_at_call 29; refine (trimPrefix_is s t hT.out _).mono ?_; rintro e w' ⟨rfl, rfl⟩) | (go_at_call 30; refine (cut_is t x y _ hC.out m _ hts hm).mono ?_; rintro e w' ⟨rfl, k, rfl⟩) | (go_at_call 28; with_reducible refine (rdd_is y b hB.out _).mono ?_; rintro e w' ⟨rfl, rfl⟩) | (go_at_call 28; with_reducible refine (rdd_is x a hA.out _).mono ?_; rintro e w' ⟨rfl, rfl⟩))
      go_ret2
      exact ⟨rfl, bel_drewN (Below.refl _ _) _⟩
    · have t2 : decide (b < 1) = false := decide_eq_false hb
      have R := good (by omega) (by omega)
      obtain ⟨n0, hn⟩ : ∃ n, fr a b = n := ⟨_, rfl⟩
      have n0lo : 0 ≤ n0 := by rw [← hn]; exact fr_lo _ _
      have n0hi : n0 < 1000000271 := by rw [← hn, fr_def]; exact res_hi _
      rw [hn] at R
      have hN := Lib.hid hn
      obtain ⟨n, hg⟩ : ∃ n, res (-n0) = n := ⟨_, rfl⟩
      have nlo : 0 ≤ n := by rw [← hg]; exact res_lo _
      rw [hg] at R
      have hG := Lib.hid hg
      clear hg
      have t5 : decide (n < 0) = false := decide_eq_false (by omega)
      clear bad good hn
      rcases fin_case s.data.toList n with ⟨h1, h2⟩ | ⟨h1, h2⟩
      · rw [h2] at R
        rw [R]
        have h1 := Lib.hid h1
        clear R h2
        go_enter Tryd.func13, Tryd.ntmps13
        go_wp2_with (first | (go_at_call 27; refine (hasPrefix_is s _ hP.out _).mono ?_; rintro e w' ⟨rfl, rfl⟩) | (go_at_call 29; refine (trimPrefix_is s t hT.out _).mono ?_; rintro e w' ⟨rfl, rfl⟩) | (go_at_call 30; refine (cut_is t x y _ hC.out m _ hts hm).mono ?_; rintro e w' ⟨rfl, k, rfl⟩) | (go_at_call 28; with_reducible refine (rdd_is y b hB.out _).mono ?_; rintro e w' ⟨rfl, rfl⟩) | (go_at_call 28; with_reducible refine (rdd_is x a hA.out _).mono ?_; rintro e w' ⟨rfl, rfl⟩) | (go_at_call 20; refine (fr_is _ _ _ hN.out _).mono ?_; rintro e w' ⟨rfl, rfl⟩) | (go_at_call 31; refine (neg_is _ _ _ (by go_num) hG.out _).mono ?_; rintro e w' ⟨rfl, rfl⟩) | (go_at_call 14; refine (fmt_is n s h1.out _).mono ?_; rintro e w' ⟨rfl, rfl⟩))
        go_ret2
        exact ⟨rfl, bel_drewN (Below.refl _ _) _⟩
      · rw [h2] at R
        rw [R]
        have h1 := Lib.hid h1
        clear R h2
        go_enter Tryd.func13, Tryd.ntmps13
        go_wp2_with (first | (go_at_call 27; refine (hasPrefix_is s _ hP.out _).mono ?_; rintro e w' ⟨rfl, rfl⟩) | (go_at_call 29; refine (trimPrefix_is s t hT.out _).mono ?_; rintro e w' ⟨rfl, rfl⟩) | (go_at_call 30; refine (cut_is t x y _ hC.out m _ hts hm).mono ?_; rintro e w' ⟨rfl, k, rfl⟩) | (go_at_call 28; with_reducible refine (rdd_is y b hB.out _).mono ?_; rintro e w' ⟨rfl, rfl⟩) | (go_at_call 28; with_reducible refine (rdd_is x a hA.out _).mono ?_; rintro e w' ⟨rfl, rfl⟩) | (go_at_call 20; refine (fr_is _ _ _ hN.out _).mono ?_; rintro e w' ⟨rfl, rfl⟩) | (go_at_call 31; refine (neg_is _ _ _ (by go_num) hG.out _).mono ?_; rintro e w' ⟨rfl, rfl⟩) | (go_at_call 14; refine (fmt_not n s h1.out _).mono ?_; rintro e w' ⟨x9, rfl, hxs, rfl⟩))
        go_ret2
        exact ⟨rfl, bel_drewN (Below.refl _ _) _⟩

set_option maxRecDepth 100000 in
set_option maxHeartbeats 3000000 in
theorem parse_hash (s : ByteArray) (w : World) (h35 : s.data.toList[0]? = some 35) :
    Calls Tryd.prog 13 #[.string s] w fun e w' => e = .returned (.tuple #[.int .i64 (pir s.data.toList).1, .bool (pir s.data.toList).2]) ∧ Below w.heap.size w w' := by
  have hP := Lib.hid (prefix_yes _ 35 h35)
  have hl : s.data.toList.length = s.size := Array.length_toList
  have hsz : 0 < s.size := by
    rw [← hl]
    rcases Nat.eq_zero_or_pos s.data.toList.length with h | h
    · rw [List.eq_nil_of_length_eq_zero h] at h35; simp at h35
    · exact h
  obtain ⟨n, hn⟩ : ∃ n, rdd (s.data.toList.drop 1) = n := ⟨_, rfl⟩
  have hR : Hid (rdd (s.extract 1 s.size).data.toList = n) := Lib.hid (by rw [ext_drop]; exact hn)
  have R := pir_hash h35
  rw [hn] at R
  have hne : s.data.toList ≠ [] := fun q => by rw [q] at h35; simp at h35
  clear hn h35
  by_cases n0 : n < 0
  · have t5 : decide (n < 0) = true := decide_eq_true n0
    rw [fin_no (by rw [fmtL_no n (by omega)]; exact fun q => hne q.symm)] at R
    rw [R]
    clear R hne hl
    go_enter Tryd.func13, Tryd.ntmps13
    go_wp2_with (first | (go_at_call 27; refine (hasPrefix_is s _ hP.out _).mono ?_; rintro e w' ⟨rfl, rfl⟩) | (go_at_call 28; refine (rdd_at _ n hR.out _).mono ?_; rintro e w' ⟨rfl, rfl⟩))
    go_ret2
    exact ⟨rfl, Below.refl _ _⟩
  · have t5 : decide (n < 0) = false := decide_eq_false n0
    clear hne hl
    rcases fin_case s.data.toList n with ⟨h1, h2⟩ | ⟨h1, h2⟩
    · rw [h2] at R
      rw [R]
      have h1 := Lib.hid h1
      clear R h2
      go_enter Tryd.func13, Tryd.ntmps13
      go_wp2_with (first | (go_at_call 27; refine (hasPrefix_is s _ hP.out _).mono ?_; rintro e w' ⟨rfl, rfl⟩) | (go_at_call 28; refine (rdd_at _ n hR.out _).mono ?_; rintro e w' ⟨rfl, rfl⟩) | (go_at_call 14; refine (fmt_is n s h1.out _).mono ?_; rintro e w' ⟨rfl, rfl⟩))
      go_ret2
      exact ⟨rfl, Below.refl _ _⟩
    · rw [h2] at R
      rw [R]
      have h1 := Lib.hid h1
      clear R h2
      go_enter Tryd.func13, Tryd.ntmps13
      go_wp2_with (first | (go_at_call 27; refine (hasPrefix_is s _ hP.out _).mono ?_; rintro e w' ⟨rfl, rfl⟩) | (go_at_call 28; refine (rdd_at _ n hR.out _).mono ?_; rintro e w' ⟨rfl, rfl⟩) | (go_at_call 14; refine (fmt_not n s h1.out _).mono ?_; rintro e w' ⟨x9, rfl, hxs, rfl⟩))
      go_ret2
      exact ⟨rfl, Below.refl _ _⟩

theorem parse_any (s : ByteArray) (m : Int) (w : World) (hs : s.size ≤ 2000000) (hm : w.cell? ⟨0, 0, none⟩ = some (.int .i64 m)) :
    Calls Tryd.prog 13 #[.string s] w fun e w' => e = .returned (.tuple #[.int .i64 (pir s.data.toList).1, .bool (pir s.data.toList).2]) ∧ Below w.heap.size w w' := by
  by_cases h35 : s.data.toList[0]? = some 35
  · exact parse_hash s w h35
  · by_cases h45 : s.data.toList[0]? = some 45
    · rcases cut_spec 47 (tl s.data.toList) with ⟨_, h⟩ | ⟨a, b, _, _, h⟩
      · exact parse_neg1 s m w hs hm h35 h45 _ _ h
      · exact parse_neg2 s m w hs hm h35 h45 _ _ h
    · rcases cut_spec 47 (tl s.data.toList) with ⟨_, h⟩ | ⟨a, b, _, _, h⟩
      · exact parse_pos1 s m w hs hm h35 h45 _ _ h
      · exact parse_pos2 s m w hs hm h35 h45 _ _ h
end Go.Proofs.YtjlcmafeemdneaaDoor
