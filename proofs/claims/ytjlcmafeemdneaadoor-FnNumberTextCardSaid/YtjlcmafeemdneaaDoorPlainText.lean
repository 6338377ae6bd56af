/- Plain texts, no program in sight: decimals, and how a number is written. -/
import Derived.WalkKit
import Derived.Test.YtjlcmafeemdneaaDoorPlainNum
namespace Go.PlainNum

/-- a text of these bytes -/
def S (l : List UInt8) : ByteArray := ⟨l.toArray⟩
theorem S_def (l : List UInt8) : S l = ⟨l.toArray⟩ := by unfold S; rfl
theorem S_append (a b : List UInt8) : S a ++ S b = S (a ++ b) := by
  apply ByteArray.ext; simp [S_def, ByteArray.data_append]
theorem S_size (l : List UInt8) : (S l).size = l.length := by rw [S_def]; rfl
theorem S_inj {a b : List UInt8} (h : S a = S b) : a = b := by
  have := congrArg (fun x => x.data.toList) h
  simpa [S_def] using this
theorem S_of (s : ByteArray) : s = S s.data.toList := by rw [S_def]
theorem S_toList (l : List UInt8) : (S l).data.toList = l := by rw [S_def]

/-- one digit -/
def d1 (n : Nat) : UInt8 := UInt8.ofNat (48 + n)

theorem d1_toNat (n : Nat) (h : n < 10) : (d1 n).toNat = 48 + n := by
  unfold d1; rw [UInt8.toNat_ofNat_of_lt' (by show 48 + n < 256; omega)]

/-- a number in decimal -/
def dg (n : Nat) : List UInt8 := if n < 10 then [d1 n] else dg (n / 10) ++ [d1 (n % 10)]
termination_by n
decreasing_by omega

theorem dg_small {n : Nat} (h : n < 10) : dg n = [d1 n] := by rw [dg, if_pos h]
theorem dg_big {n : Nat} (h : ¬ n < 10) : dg n = dg (n / 10) ++ [d1 (n % 10)] := by rw [dg, if_neg h]
theorem dg_len : ∀ (k n : Nat), n < 10 ^ (k + 1) → (dg n).length ≤ k + 1 := by
  intro k
  induction k with
  | zero => intro n h; rw [dg_small (by simpa using h)]; simp
  | succ k ih =>
    intro n h
    by_cases h1 : n < 10
    · rw [dg_small h1]; simp
    · rw [dg_big h1, List.length_append]
      have : n / 10 < 10 ^ (k + 1) := by rw [Nat.pow_succ] at h; omega
      have := ih _ this
      simp; omega
theorem dg_len19 (n : Nat) (h : n ≤ 9223372036854775808) : (dg n).length ≤ 19 := dg_len 18 n (by omega)
theorem dg_ne (n : Nat) : dg n ≠ [] := by
  by_cases h : n < 10
  · rw [dg_small h]; simp
  · rw [dg_big h]; simp

theorem enc_digit (x : Int) (n : Nat) (hx : x = 48 + (n : Int)) (h : n < 10) : Utf8.encode x = S [d1 n] := by
  subst hx
  unfold Utf8.encode
  have h1 : Utf8.valid (48 + (n : Int)) = true := by unfold Utf8.valid; simp; omega
  have h2 : (48 + (n : Int)).toNat = 48 + n := by omega
  simp only [h1, h2, if_true]
  rw [if_pos (by omega), S_def]
  rfl

/-! ### the loop that writes digits from the right -/
/-- what is still to be written of k before l -/
def aheadD (k : Nat) (l : List UInt8) : List UInt8 := if k = 0 then l else dg k ++ l
attribute [irreducible] aheadD
theorem aheadD_zero (l : List UInt8) : aheadD 0 l = l := by unfold aheadD; rw [if_pos rfl]
theorem aheadD_start (k : Nat) (h : 0 < k) : aheadD k [] = dg k := by unfold aheadD; rw [if_neg (by omega), List.append_nil]
theorem aheadD_step (k : Nat) (l : List UInt8) (h : 0 < k) : aheadD (k / 10) (d1 (k % 10) :: l) = aheadD k l := by
  unfold aheadD
  rw [if_neg (show ¬ k = 0 by omega)]
  by_cases h1 : k < 10
  · rw [if_pos (by omega), dg_small h1, Nat.mod_eq_of_lt h1]; rfl
  · rw [if_neg (by omega), dg_big h1, List.append_assoc]; rfl
theorem aheadD_len (k : Nat) (l : List UInt8) (D : List UInt8) (h : aheadD k l = D) : l.length ≤ D.length := by
  unfold aheadD at h
  split at h
  · rw [h]; exact Nat.le_refl _
  · rw [← h, List.length_append]; omega

/-! ### how a number is written -/
/-- a numerator that is small, or small below 0, at a denominator -/
def txtAt (a : Int) (b : Nat) : List UInt8 :=
  (if a ≤ 9999 then dg a.toNat else 45 :: dg (1000000271 - a).toNat) ++ (if b = 1 then [] else 47 :: dg b)
/-- the search for the least denominator: so many are left, from b on -/
def fmtGo (n : Int) : Nat → Nat → List UInt8
  | 0, _ => 35 :: dg n.toNat
  | r + 1, b => if n * b % 1000000271 ≤ 9999 ∨ 999990272 ≤ n * b % 1000000271 then txtAt (n * b % 1000000271) b else fmtGo n r (b + 1)
/-- the text of a number -/
def fmtL (n : Int) : List UInt8 := if 0 ≤ n ∧ n < 1000000271 then fmtGo n 9999 1 else []
theorem fmtGo_stop (n : Int) (b : Nat) : fmtGo n 0 b = 35 :: dg n.toNat := rfl
theorem fmtGo_pos1 (n : Int) (r : Nat) (a : Int) (ha : a = n * (1 : Nat) % 1000000271) (h : a ≤ 9999) : fmtGo n (r + 1) 1 = dg a.toNat := by
  subst ha; rw [fmtGo, if_pos (Or.inl h), txtAt, if_pos h, if_pos rfl, List.append_nil]
theorem fmtGo_pos (n : Int) (r b : Nat) (a : Int) (ha : a = n * b % 1000000271) (h : a ≤ 9999) (hb : b ≠ 1) : fmtGo n (r + 1) b = dg a.toNat ++ [47] ++ dg b := by
  subst ha; rw [fmtGo, if_pos (Or.inl h), txtAt, if_pos h, if_neg hb, List.append_assoc]; rfl
theorem fmtGo_neg1 (n : Int) (r : Nat) (a : Int) (ha : a = n * (1 : Nat) % 1000000271) (h : 999990272 ≤ a) : fmtGo n (r + 1) 1 = 45 :: dg (1000000271 - a).toNat := by
  subst ha; rw [fmtGo, if_pos (Or.inr h), txtAt, if_neg (by omega), if_pos rfl, List.append_nil]
theorem fmtGo_neg (n : Int) (r b : Nat) (a : Int) (ha : a = n * b % 1000000271) (h : 999990272 ≤ a) (hb : b ≠ 1) : fmtGo n (r + 1) b = 45 :: dg (1000000271 - a).toNat ++ [47] ++ dg b := by
  subst ha; rw [fmtGo, if_pos (Or.inr h), txtAt, if_neg (by omega), if_neg hb, List.append_assoc]; rfl
theorem fmtGo_miss (n : Int) (r b : Nat) (a : Int) (ha : a = n * b % 1000000271) (h1 : 9999 < a) (h2 : a < 999990272) : fmtGo n (r + 1) b = fmtGo n r (b + 1) := by
  subst ha; rw [fmtGo, if_neg (by omega)]
attribute [irreducible] fmtGo fmtL
theorem fmtL_no (n : Int) (h : ¬ (0 ≤ n ∧ n < 1000000271)) : fmtL n = [] := by unfold fmtL; rw [if_neg h]
theorem fmtL_yes (n : Int) (h : 0 ≤ n ∧ n < 1000000271) : fmtL n = fmtGo n 9999 1 := by unfold fmtL; rw [if_pos h]
theorem step_mod (n b : Int) : (n * b % 1000000271 + n) % 1000000271 = n * (b + 1) % 1000000271 := by
  rw [Int.mul_add, Int.mul_one, Int.add_emod, Int.emod_emod_of_dvd _ (Int.dvd_refl _), ← Int.add_emod]
end Go.PlainNum
