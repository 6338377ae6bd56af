/- Gauss on a table of numbers, as the program and the reference do it. No program in sight. -/
import Derived.Test.YtkpbaaigopheeaaPlainNum
namespace Go.PlainNum

/-- the first row from i on whose number in column c isn't 0 -/
def fd (M : Nat → Nat → Int) (c n i : Nat) : Nat := if h : i < n ∧ M i c = 0 then fd M c n (i + 1) else i
termination_by n - i
decreasing_by omega
theorem fd_go {M : Nat → Nat → Int} {c n i : Nat} (h : i < n) (h0 : M i c = 0) : fd M c n (i + 1) = fd M c n i := by
  conv => rhs; rw [fd, dif_pos ⟨h, h0⟩]
theorem fd_end {M : Nat → Nat → Int} {c n i : Nat} (h : ¬ (i < n ∧ M i c = 0)) : fd M c n i = i := by rw [fd, dif_neg h]
theorem fd_le (M : Nat → Nat → Int) (c n : Nat) : ∀ (d i : Nat), n - i ≤ d → i ≤ n → i ≤ fd M c n i ∧ fd M c n i ≤ n := by
  intro d
  induction d with
  | zero => intro i h1 h2; rw [fd_end (by omega)]; omega
  | succ d ih =>
    intro i h1 h2
    by_cases h : i < n ∧ M i c = 0
    · rw [← fd_go h.1 h.2]
      have := ih (i + 1) (by omega) (by omega)
      omega
    · rw [fd_end h]; omega
theorem fd_nz (M : Nat → Nat → Int) (c n : Nat) : ∀ (d i : Nat), n - i ≤ d → i ≤ n → fd M c n i < n → M (fd M c n i) c ≠ 0 := by
  intro d
  induction d with
  | zero => intro i h1 h2; rw [fd_end (by omega)]; omega
  | succ d ih =>
    intro i h1 h2
    by_cases h : i < n ∧ M i c = 0
    · rw [← fd_go h.1 h.2]
      exact ih (i + 1) (by omega) (by omega)
    · rw [fd_end h]; intro h3 h4; exact h ⟨h3, h4⟩
/-- two rows change places -/
def swp (M : Nat → Nat → Int) (a b : Nat) : Nat → Nat → Int := fun i => if i = a then M b else if i = b then M a else M i
/-- one number set -/
def upd (M : Nat → Nat → Int) (a b : Nat) (x : Int) : Nat → Nat → Int := fun i j => if i = a ∧ j = b then x else M i j
/-- the first j numbers of row t times k -/
def scl (M : Nat → Nat → Int) (t : Nat) (k : Int) (m : Nat) : Nat → Nat → Int := fun i j => if i = t ∧ j < m then res (M t j * k) else M i j
theorem scl_zero (M : Nat → Nat → Int) (t : Nat) (k : Int) : scl M t k 0 = M := by funext i j; simp [scl]
theorem scl_succ (M : Nat → Nat → Int) (t : Nat) (k : Int) (m : Nat) : upd (scl M t k m) t m (res (M t m * k)) = scl M t k (m + 1) := by
  funext i j
  by_cases h : i = t ∧ j = m
  · obtain ⟨rfl, rfl⟩ := h; simp [upd, scl]
  · have e : (i = t ∧ j < m + 1) ↔ (i = t ∧ j < m) := by omega
    simp only [upd, scl, if_neg h, e]
theorem scl_at (M : Nat → Nat → Int) (t : Nat) (k : Int) (m : Nat) : scl M t k m t m = M t m := by simp [scl]
/-- the first j numbers of row i less y times row t's -/
def sbr (M : Nat → Nat → Int) (t i : Nat) (y : Int) (m : Nat) : Nat → Nat → Int := fun a j => if a = i ∧ j < m then res (M i j - y * M t j) else M a j
theorem sbr_zero (M : Nat → Nat → Int) (t i : Nat) (y : Int) : sbr M t i y 0 = M := by funext a j; simp [sbr]
theorem sbr_succ (M : Nat → Nat → Int) (t i : Nat) (y : Int) (m : Nat) : upd (sbr M t i y m) i m (res (M i m - y * M t m)) = sbr M t i y (m + 1) := by
  funext a j
  by_cases h : a = i ∧ j = m
  · obtain ⟨rfl, rfl⟩ := h; simp [upd, sbr]
  · have e : (a = i ∧ j < m + 1) ↔ (a = i ∧ j < m) := by omega
    simp only [upd, sbr, if_neg h, e]
theorem sbr_at (M : Nat → Nat → Int) (t i : Nat) (y : Int) (m : Nat) : sbr M t i y m i m = M i m := by simp [sbr]
theorem sbr_top (M : Nat → Nat → Int) (t i : Nat) (y : Int) (m : Nat) (h : t ≠ i) (j : Nat) : sbr M t i y m t j = M t j := by simp [sbr, h]
/-- the first m rows, but t, less their number in column c times row t (W columns) -/
def elm (M : Nat → Nat → Int) (t c W : Nat) (m : Nat) : Nat → Nat → Int := fun i j => if i ≠ t ∧ i < m ∧ j < W then res (M i j - M i c * M t j) else M i j
theorem elm_zero (M : Nat → Nat → Int) (t c W : Nat) : elm M t c W 0 = M := by funext i j; simp [elm]
theorem elm_top (M : Nat → Nat → Int) (t c W : Nat) : elm M t c W (t + 1) = elm M t c W t := by
  funext i j
  have e : (i ≠ t ∧ i < t + 1 ∧ j < W) ↔ (i ≠ t ∧ i < t ∧ j < W) := by omega
  simp only [elm, e]
theorem elm_row (M : Nat → Nat → Int) (t c W m : Nat) (h : m ≠ t) : sbr (elm M t c W m) t m (M m c) W = elm M t c W (m + 1) := by
  funext i j
  by_cases hi : i = m
  · subst hi
    by_cases hj : j < W
    · simp [sbr, elm, hj, h]
    · simp [sbr, elm, hj]
  · have e : (i ≠ t ∧ i < m + 1 ∧ j < W) ↔ (i ≠ t ∧ i < m ∧ j < W) := by omega
    simp only [sbr, elm, e]
    rw [if_neg (by intro q; exact hi q.1)]
theorem elm_at (M : Nat → Nat → Int) (t c W m j : Nat) : elm M t c W m m j = M m j := by simp [elm]
theorem elm_t (M : Nat → Nat → Int) (t c W m j : Nat) : elm M t c W m t j = M t j := by simp [elm]
/-- all are numbers -/
def Nm (n W : Nat) (M : Nat → Nat → Int) : Prop := ∀ i j, i < n → j < W → 0 ≤ M i j ∧ M i j < 1000000271
/-- the same in the table -/
def Eqm (n W : Nat) (M M' : Nat → Nat → Int) : Prop := ∀ i j, i < n → j < W → M i j = M' i j
theorem elm_skip (M : Nat → Nat → Int) (t c W n m : Nat) (hm : m < n) (h0 : M m c = 0) (hN : Nm n W M) : Eqm n W (elm M t c W (m + 1)) (elm M t c W m) := by
  intro i j hi hj
  by_cases hq : i = m
  · subst hq
    rw [elm_at]
    by_cases ht : i = t
    · subst ht; rw [elm_t]
    · simp only [elm, if_pos (show i ≠ t ∧ i < i + 1 ∧ j < W from ⟨ht, by omega, hj⟩)]
      rw [h0, Int.zero_mul, Int.sub_zero]
      have := hN i j hi hj
      exact res_of _ this.1 this.2
  · have e : (i ≠ t ∧ i < m + 1 ∧ j < W) ↔ (i ≠ t ∧ i < m ∧ j < W) := by omega
    simp only [elm, e]
theorem swp_at (M : Nat → Nat → Int) (a b : Nat) : swp M a b b = M a := by
  by_cases h : b = a
  · simp [swp, h]
  · simp [swp, h]
/-- what one column does: the pivots' columns, the table -/
def gst (n W c : Nat) (s : List Nat × (Nat → Nat → Int)) : List Nat × (Nat → Nat → Int) :=
  if fd s.2 c n s.1.length < n then
    (s.1 ++ [c], elm (scl (swp s.2 (fd s.2 c n s.1.length) s.1.length) s.1.length (pw (s.2 (fd s.2 c n s.1.length) c) 1000000269) W) s.1.length c W n)
  else s
def gau (n W : Nat) (M : Nat → Nat → Int) : Nat → List Nat × (Nat → Nat → Int)
  | 0 => ([], M)
  | c + 1 => gst n W c (gau n W M c)
theorem gst_no {n W c : Nat} {s : List Nat × (Nat → Nat → Int)} (h : ¬ fd s.2 c n s.1.length < n) : gst n W c s = s := if_neg h
theorem gst_yes {n W c : Nat} {s : List Nat × (Nat → Nat → Int)} (h : fd s.2 c n s.1.length < n) : gst n W c s = (s.1 ++ [c], elm (scl (swp s.2 (fd s.2 c n s.1.length) s.1.length) s.1.length (pw (s.2 (fd s.2 c n s.1.length) c) 1000000269) W) s.1.length c W n) := if_pos h
theorem Nm.swp {n W : Nat} {M : Nat → Nat → Int} {a b : Nat} (h : Nm n W M) (ha : a < n) (hb : b < n) : Nm n W (swp M a b) := by
  intro i j hi hj
  unfold Go.PlainNum.swp
  split
  · exact h b j hb hj
  · split
    · exact h a j ha hj
    · exact h i j hi hj
theorem Nm.scl {n W : Nat} {M : Nat → Nat → Int} (h : Nm n W M) (t : Nat) (k : Int) (m : Nat) : Nm n W (scl M t k m) := by
  intro i j hi hj
  unfold Go.PlainNum.scl
  split
  · exact ⟨res_lo _, res_hi _⟩
  · exact h i j hi hj
theorem Nm.elm {n W : Nat} {M : Nat → Nat → Int} (h : Nm n W M) (t c V m : Nat) : Nm n W (elm M t c V m) := by
  intro i j hi hj
  unfold Go.PlainNum.elm
  split
  · exact ⟨res_lo _, res_hi _⟩
  · exact h i j hi hj
theorem gau_no {n W : Nat} {M M' : Nat → Nat → Int} {pv : List Nat} {j t : Nat} (hg : gau n W M j = (pv, M')) (ht : pv.length = t) (h : fd M' j n t = n) : gau n W M (j + 1) = (pv, M') := by
  subst ht
  show gst n W j (gau n W M j) = _
  rw [hg, gst_no (by show ¬ fd M' j n pv.length < n; omega)]
theorem gau_yes {n W : Nat} {M M' M2 M3 : Nat → Nat → Int} {pv : List Nat} {j t a : Nat} {x k : Int} (hg : gau n W M j = (pv, M')) (ht : pv.length = t) (ha : fd M' j n t = a) (h : a < n)
    (hx : M' a j = x) (hk : pw x 1000000269 = k) (h2 : M2 = Go.PlainNum.swp M' a t) (h3 : M3 = Go.PlainNum.scl M2 t k W) : gau n W M (j + 1) = (pv ++ [j], Go.PlainNum.elm M3 t j W n) := by
  subst ht
  subst ha
  subst hx
  subst hk
  subst h2
  subst h3
  show gst n W j (gau n W M j) = _
  rw [hg, gst_yes (by show fd M' j n pv.length < n; omega)]
theorem gau_len (n W : Nat) (M : Nat → Nat → Int) (j : Nat) : (gau n W M j).1.length ≤ n := by
  induction j with
  | zero => exact Nat.zero_le _
  | succ j ih =>
    show (gst n W j (gau n W M j)).1.length ≤ n
    by_cases h : fd (gau n W M j).2 j n (gau n W M j).1.length < n
    · rw [gst_yes h]
      have := (fd_le (gau n W M j).2 j n n (gau n W M j).1.length (by omega) ih).1
      simp; omega
    · rw [gst_no h]; exact ih
attribute [irreducible] swp upd scl sbr elm
end Go.PlainNum
