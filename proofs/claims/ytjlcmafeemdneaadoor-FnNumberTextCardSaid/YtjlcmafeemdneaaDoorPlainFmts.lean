/- How a list of numbers is written: the texts of the numbers with a blank between. No program in sight. -/
import Derived.Test.YtjlcmafeemdneaaDoorPlainText
import Derived.Lib.Join
namespace Go.PlainNum

theorem fmtGo_len (n : Int) (h : 0 ≤ n ∧ n < 1000000271) : ∀ (r b : Nat), r + b ≤ 10000 → (fmtGo n r b).length ≤ 40 := by
  intro r
  induction r with
  | zero => intro b _; rw [fmtGo_stop]; have := dg_len19 n.toNat (by omega); simp; omega
  | succ r ih =>
    intro b hb
    obtain ⟨a, ha⟩ : ∃ a, a = n * b % 1000000271 := ⟨_, rfl⟩
    have a0 : 0 ≤ a := by rw [ha]; exact mod_lo _
    have a1 : a < 1000000271 := by rw [ha]; exact mod_hi _
    have hlb := dg_len19 b (by omega)
    have hla := dg_len19 a.toNat (by omega)
    have hlc := dg_len19 (1000000271 - a).toNat (by omega)
    by_cases k1 : a ≤ 9999
    · by_cases b1 : b = 1
      · subst b1; rw [fmtGo_pos1 n r a ha k1]; omega
      · rw [fmtGo_pos n r b a ha k1 b1]; simp; omega
    · by_cases k9 : 999990272 ≤ a
      · by_cases b1 : b = 1
        · subst b1; rw [fmtGo_neg1 n r a ha k9]; simp; omega
        · rw [fmtGo_neg n r b a ha k9 b1]; simp; omega
      · rw [fmtGo_miss n r b a ha (by omega) (by omega)]
        exact ih (b + 1) (by omega)
theorem fmtL_len (n : Int) : (fmtL n).length ≤ 40 := by
  by_cases h : 0 ≤ n ∧ n < 1000000271
  · rw [fmtL_yes n h]; exact fmtGo_len n h 9999 1 (by omega)
  · rw [fmtL_no n h]; simp

/-- the text of the first k -/
def preT (zs : List Int) (k : Nat) : List UInt8 := Lib.join ((zs.take k).map fmtL) [32]
theorem preT_zero (zs : List Int) : preT zs 0 = [] := by simp [preT, Lib.join_nil]
theorem preT_one (zs : List Int) (h : 0 < zs.length) : preT zs 1 = fmtL (zs.getD 0 0) := by
  cases zs with
  | nil => simp at h
  | cons x r => simp [preT, Lib.join_one]
theorem preT_succ (zs : List Int) (k : Nat) (h0 : 0 < k) (hk : k < zs.length) : preT zs (k + 1) = preT zs k ++ [32] ++ fmtL (zs.getD k 0) := by
  cases zs with
  | nil => simp at hk
  | cons x r =>
    obtain ⟨j, rfl⟩ : ∃ j, k = j + 1 := ⟨k - 1, by omega⟩
    have hj : j < r.length := by simpa using hk
    unfold preT
    rw [List.take_succ_cons, List.map_cons, Lib.join_cons, List.take_succ_cons, List.map_cons, Lib.join_cons, List.map_take, List.map_take,
      Lib.joinTail_take_succ [32] (r.map fmtL) j (fmtL (r.getD j 0)) (by simp [List.getElem?_eq_getElem hj])]
    simp [List.append_assoc]
theorem preT_len (zs : List Int) : ∀ k, k ≤ zs.length → (preT zs k).length ≤ k * 41 := by
  intro k
  induction k with
  | zero => intro _; rw [preT_zero]; simp
  | succ k ih =>
    intro hk
    have hi := ih (by omega)
    have hf := fmtL_len (zs.getD k 0)
    by_cases h0 : 0 < k
    · rw [preT_succ zs k h0 (by omega)]; simp at hi hf ⊢; omega
    · obtain rfl : k = 0 := by omega
      rw [preT_one zs (by omega)]; simp at hf ⊢; omega
theorem preT_full (zs : List Int) : Lib.join (zs.map fmtL) [32] = preT zs zs.length := by simp [preT]
attribute [irreducible] preT
end Go.PlainNum
