/- A number is read back from its text; small fractions show their parts. No program in sight. -/
import Derived.Test.YtjlcmafeemdneaaDoorPlainWords
import Derived.Test.YtjlcmafeemdneaaDoorPlainFmts
import Derived.Test.YtjlcmafeemdneaaDoorPlainField
namespace Go.PlainNum

/-- what stands behind the numerator -/
def tailT (b : Nat) : List UInt8 := if b = 1 then [] else 47 :: dg b
/-- how a number's text tells of it -/
def Back (n : Int) (l : List UInt8) : Prop :=
  l = 35 :: dg n.toNat ∨ ∃ a b : Nat, 1 ≤ b ∧ b ≤ 9999 ∧ a ≤ 9999 ∧ ((l = dg a ++ tailT b ∧ n * b % 1000000271 = a) ∨ (l = 45 :: (dg a ++ tailT b) ∧ 1 ≤ a ∧ n * b % 1000000271 = 1000000271 - a))
theorem fmtGo_back (n : Int) : ∀ (r b : Nat), 1 ≤ b → r + b ≤ 10000 → Back n (fmtGo n r b) := by
  intro r
  induction r with
  | zero => intro b _ _; rw [fmtGo_stop]; exact Or.inl rfl
  | succ r ih =>
    intro b hb0 hb
    obtain ⟨a, ha⟩ : ∃ a, a = n * b % 1000000271 := ⟨_, rfl⟩
    have a0 : 0 ≤ a := by rw [ha]; exact mod_lo _
    have a1 : a < 1000000271 := by rw [ha]; exact mod_hi _
    by_cases k1 : a ≤ 9999
    · refine Or.inr ⟨a.toNat, b, hb0, by omega, by omega, Or.inl ⟨?_, by omega⟩⟩
      by_cases b1 : b = 1
      · subst b1; rw [fmtGo_pos1 n r a ha k1]; simp [tailT]
      · rw [fmtGo_pos n r b a ha k1 b1]; simp [tailT, b1]
    · by_cases k9 : 999990272 ≤ a
      · refine Or.inr ⟨(1000000271 - a).toNat, b, hb0, by omega, by omega, Or.inr ⟨?_, by omega, by omega⟩⟩
        by_cases b1 : b = 1
        · subst b1; rw [fmtGo_neg1 n r a ha k9]; simp [tailT]
        · rw [fmtGo_neg n r b a ha k9 b1]; simp [tailT, b1]
      · rw [fmtGo_miss n r b a ha (by omega) (by omega)]
        exact ih (b + 1) (by omega) (by omega)
theorem fr_back (n b a : Int) (h0 : 0 ≤ n) (h1 : n < 1000000271) (hb : res b ≠ 0) (ha : res (n * b) = res a) : fr a b = n := by
  rw [fr_def, ← res_mul_res_l, ← ha, res_mul_res_l, Int.mul_assoc, ← res_mul_res_r, mul_inv b hb, Int.mul_one]
  exact res_of n h0 h1
theorem cut_tail (a b : Nat) : Lib.cut (dg a ++ tailT b) [47] = (dg a, if b = 1 then [] else dg b, decide (b ≠ 1)) := by
  unfold tailT
  by_cases h : b = 1
  · rw [if_pos h, if_pos h, List.append_nil]
    rcases cut_spec 47 (dg a) with ⟨_, h2⟩ | ⟨x, y, _, h2, _⟩
    · rw [h2]; simp [h]
    · exact absurd (show (47 : UInt8) ∈ dg a by rw [h2]; simp) (slash_dg a)
  · rw [if_neg h, if_neg h]
    rcases cut_spec 47 (dg a ++ 47 :: dg b) with ⟨h1, _⟩ | ⟨x, y, h1, h2, h3⟩
    · exact absurd (by simp) h1
    · rw [h3]
      have e1 := sp_cut 47 (dg a) (dg b) (slash_dg a)
      have e2 := sp_cut 47 x y h1
      rw [← h2] at e2
      rw [sp_whole 47 _ (slash_dg b)] at e1
      rw [e1] at e2
      have hx : dg a = x := by simp at e2; exact e2.1
      subst hx
      have hy : dg b = y := by simpa using h2
      simp [hy, h]
theorem dg_head_digit (a : Nat) (c : UInt8) (r : List UInt8) (h : (dg a ++ r)[0]? = some c) : 48 ≤ c.toNat := by
  rw [List.getElem?_append_left (dg_pos a)] at h
  obtain ⟨h1, h2⟩ := List.getElem?_eq_some_iff.1 h
  have := dg_dig a a (Nat.le_refl _) _ (List.getElem_mem h1)
  rw [h2] at this
  omega
theorem res_small (b : Nat) (h0 : 1 ≤ b) (h1 : b ≤ 9999) : res (b : Int) ≠ 0 := by
  rw [res_of _ (by omega) (by omega)]; omega
/-- a number is read back from its text -/
theorem pir_fmt (n : Int) (h : 0 ≤ n ∧ n < 1000000271) : pir (fmtL n) = (n, true) := by
  have hB := fmtGo_back n 9999 1 (by omega) (by omega)
  rw [← fmtL_yes n h] at hB
  obtain ⟨l, hl⟩ : ∃ l, fmtL n = l := ⟨_, rfl⟩
  rw [hl] at hB ⊢
  rcases hB with rfl | ⟨a, b, hb0, hb1, ha, ⟨rfl, hm⟩ | ⟨rfl, ha0, hm⟩⟩
  · rw [pir_hash rfl]
    show fin _ (rdd (dg n.toNat)) = _
    rw [rdd_dg, digs_dg _ (by omega), show ((n.toNat : Nat) : Int) = n by omega]
    exact fin_yes hl
  · have e35 : (dg a ++ tailT b)[0]? ≠ some 35 := fun q => by have := dg_head_digit a _ _ q; have e : (35 : UInt8).toNat = 35 := rfl; omega
    have e45 : (dg a ++ tailT b)[0]? ≠ some 45 := fun q => by have := dg_head_digit a _ _ q; have e : (45 : UInt8).toNat = 45 := rfl; omega
    have et : tl (dg a ++ tailT b) = dg a ++ tailT b := by unfold tl; rw [if_neg e45]
    have eA : qA (dg a ++ tailT b) = a := by unfold qA; rw [et, cut_tail]; show rdd (dg a) = _; rw [rdd_dg, digs_dg a (by omega)]
    have eB : qB (dg a ++ tailT b) = b := by
      unfold qB
      rw [et, cut_tail]
      by_cases h1 : b = 1
      · simp [h1]
      · simp [h1]
        rw [rdd_dg, digs_dg b (by omega)]
    rw [pir_pos e35 (by omega) (by omega) e45, eA, eB, fr_back n b a h.1 h.2 (res_small b hb0 hb1) (by rw [res_of a (by omega) (by omega)]; exact hm)]
    exact fin_yes hl
  · have e35 : (45 :: (dg a ++ tailT b))[0]? ≠ some 35 := by simp
    have e45 : (45 :: (dg a ++ tailT b))[0]? = some 45 := rfl
    have et : tl (45 :: (dg a ++ tailT b)) = dg a ++ tailT b := by unfold tl; rw [if_pos e45]; rfl
    have eA : qA (45 :: (dg a ++ tailT b)) = a := by unfold qA; rw [et, cut_tail]; show rdd (dg a) = _; rw [rdd_dg, digs_dg a (by omega)]
    have eB : qB (45 :: (dg a ++ tailT b)) = b := by
      unfold qB
      rw [et, cut_tail]
      by_cases h1 : b = 1
      · simp [h1]
      · simp [h1]
        rw [rdd_dg, digs_dg b (by omega)]
    rw [pir_neg e35 (by omega) (by omega) e45, eA, eB, fr_neg, fr_back n b (-1 * a) h.1 h.2 (res_small b hb0 hb1) (by show n * b % 1000000271 = (-1 * (a : Int)) % 1000000271; omega)]
    exact fin_yes hl

theorem fin_true {l : List UInt8} {n v : Int} (h : fin l n = (v, true)) : fmtL v = l := by
  by_cases hf : fmtL n = l
  · rw [fin_yes hf] at h
    have : n = v := by simpa using h
    rw [← this]; exact hf
  · rw [fin_no hf] at h; simp at h
/-- what is read is the text of what is answered -/
theorem pir_text {l : List UInt8} {v : Int} (h : pir l = (v, true)) : fmtL v = l := by
  by_cases h35 : l[0]? = some 35
  · rw [pir_hash h35] at h; exact fin_true h
  · by_cases hb : qA l < 0 ∨ qB l < 1
    · rw [pir_bad h35 hb] at h; simp at h
    · by_cases h45 : l[0]? = some 45
      · rw [pir_neg h35 (by omega) (by omega) h45] at h; exact fin_true h
      · rw [pir_pos h35 (by omega) (by omega) h45] at h; exact fin_true h
theorem fmtL_ne (n : Int) (h : 0 ≤ n ∧ n < 1000000271) : fmtL n ≠ [] := fun e => by
  have := pir_fmt n h
  rw [e, ← psr_pir, psr_nil] at this
  simp at this
theorem fmtL_blank (n : Int) : (32 : UInt8) ∉ fmtL n := by
  have e : (32 : UInt8).toNat = 32 := rfl
  have hd : ∀ m, (32 : UInt8) ∉ dg m := fun m hm => by have := dg_dig m m (Nat.le_refl _) _ hm; omega
  rcases fmtL_shape n with h | ⟨m, h⟩ | ⟨sg, a, b, hs, _, _, h⟩
  · rw [h]; simp
  · rw [h]; simp; exact hd m
  · rw [h]
    intro hm
    rcases List.mem_append.1 hm with hm | hm
    · rcases hs with rfl | rfl <;> simp at hm
    · rcases List.mem_append.1 hm with hm | hm
      · exact hd a hm
      · split at hm
        · simp at hm
        · rcases List.mem_cons.1 hm with hm | hm
          · exact absurd hm (by decide)
          · exact hd b hm
/-- two numbers are read back from their text -/
theorem two_back (x y : Int) (hx : 0 ≤ x ∧ x < 1000000271) (hy : 0 ≤ y ∧ y < 1000000271) : pnz (sp 32 (preT [x, y] 2)) = [x, y] ∧ pnb (sp 32 (preT [x, y] 2)) = true := by
  have e : preT [x, y] 2 = fmtL x ++ 32 :: fmtL y := by
    rw [preT_succ [x, y] 1 (by omega) (by simp), preT_one _ (by simp)]; simp
  rw [e, sp_cut 32 _ _ (fmtL_blank x), sp_whole 32 _ (fmtL_blank y)]
  have hb : pnb [fmtL x, fmtL y] = true := pnb_yes _ (fun k p hp => by
    match k, hp with
    | 0, hp => obtain rfl : fmtL x = p := by simpa using hp
               rw [pir_fmt x hx]
    | 1, hp => obtain rfl : fmtL y = p := by simpa using hp
               rw [pir_fmt y hy]
    | k + 2, hp => simp at hp)
  exact ⟨by rw [pnz_yes hb]; simp [pir_fmt x hx, pir_fmt y hy], hb⟩

/-- hundredths -/
theorem hund_miss (x : Int) (n b : Nat) (hn : n ≤ 99) (hb0 : 1 ≤ b) (hb1 : b ≤ 99) (hx : x * 100 % 1000000271 = 100 * n + 1) : 9999 < x * b % 1000000271 ∧ x * b % 1000000271 < 999990272 := by
  obtain ⟨c, hc⟩ : ∃ c, x * b % 1000000271 = c := ⟨_, rfl⟩
  rw [hc]
  have c0 : 0 ≤ c := by rw [← hc]; exact mod_lo _
  have c1 : c < 1000000271 := by rw [← hc]; exact mod_hi _
  obtain ⟨t, ht⟩ : ∃ t : Nat, n * b = t := ⟨_, rfl⟩
  have t1 : t ≤ 9801 := by rw [← ht]; exact Nat.mul_le_mul hn hb1
  have key : c * 100 % 1000000271 = (100 * t + b : Int) % 1000000271 := by
    rw [← hc, mul_mod_l, Int.mul_assoc, Int.mul_comm (b : Int) 100, ← Int.mul_assoc, ← mul_mod_l, hx, Int.add_mul, Int.one_mul, Int.mul_assoc, ← ht]
    congr 1
  clear hx hc ht
  have hb : (100 * (t : Int) + b) % 1000000271 = 100 * t + b := Int.emod_eq_of_lt (by omega) (by omega)
  rw [hb] at key
  refine ⟨?_, ?_⟩
  · rcases Int.lt_or_le 9999 c with h | h
    · exact h
    · exfalso
      rw [Int.emod_eq_of_lt (by omega) (by omega)] at key
      omega
  · rcases Int.lt_or_le c 999990272 with h | h
    · exact h
    · exfalso
      have : c * 100 % 1000000271 = c * 100 - 1000000271 * 99 := by omega
      omega
theorem hund_go (x : Int) (n : Nat) (hn : n ≤ 99) (hx : x * 100 % 1000000271 = 100 * n + 1) : ∀ j : Nat, j ≤ 99 → fmtGo x 9999 1 = fmtGo x (9999 - j) (1 + j) := by
  intro j
  induction j with
  | zero => intro _; rfl
  | succ j ih =>
    intro hj
    rw [ih (by omega)]
    obtain ⟨h1, h2⟩ := hund_miss x n (1 + j) hn (by omega) (by omega) hx
    rw [show 9999 - j = (9999 - (j + 1)) + 1 by omega, fmtGo_miss x _ (1 + j) _ rfl h1 h2]
    congr 1
theorem hund (n : Nat) (h0 : 1 ≤ n) (hn : n ≤ 99) : fmtL (fr (100 * n + 1) 100) = fmtL (100 * n + 1) ++ [47, 49, 48, 48] := by
  obtain ⟨x, hx⟩ : ∃ x, fr (100 * n + 1) 100 = x := ⟨_, rfl⟩
  have hx0 : 0 ≤ x := by rw [← hx]; exact fr_lo _ _
  have hx1 : x < 1000000271 := by rw [← hx, fr_def]; exact res_hi _
  have hm : x * 100 % 1000000271 = 100 * n + 1 := by
    have := frac_mul (100 * n + 1) 100 (by decide)
    rw [← fr_def, hx, res_of (100 * n + 1) (by omega) (by omega)] at this
    exact this
  rw [hx, fmtL_yes x ⟨hx0, hx1⟩, hund_go x n hn hm 99 (by omega), fmtL_yes (100 * n + 1) (by omega)]
  rw [show 9999 - 99 = 9899 + 1 from rfl, fmtGo_pos x 9899 (1 + 99) (100 * n + 1) (by rw [show ((1 + 99 : Nat) : Int) = 100 from rfl, hm]) (by omega) (by omega)]
  rw [show 9999 = 9998 + 1 from rfl, fmtGo_pos1 (100 * n + 1) 9998 (100 * n + 1) (by rw [show ((1 : Nat) : Int) = 1 from rfl, Int.mul_one]; omega) (by omega)]
  rw [List.append_assoc]
  congr 1
  rw [dg_big (by omega), show (1 + 99) / 10 = 10 from rfl, dg_big (by omega), dg_small (by omega)]
  rfl
end Go.PlainNum
