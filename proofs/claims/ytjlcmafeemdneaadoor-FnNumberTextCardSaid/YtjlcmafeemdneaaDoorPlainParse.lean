/- How a decimal is read. No program in sight. -/
import Derived.Test.YtjlcmafeemdneaaDoorPlainText
import Derived.Lib.CutLaws
namespace Go.PlainNum

/-- the value of digits behind a number; -1 where one is none -/
def dgo : List UInt8 → Int → Int
  | [], n => n
  | c :: r, n => if c.toNat < 48 ∨ 57 < c.toNat then -1 else dgo r (10 * n + ((c.toNat : Int) - 48))
theorem dgo_nil (n : Int) : dgo [] n = n := rfl
theorem dgo_bad (l : List UInt8) (k : Nat) (c : UInt8) (n : Int) (h : l[k]? = some c) (hc : c.toNat < 48 ∨ 57 < c.toNat) : dgo (l.drop k) n = -1 := by
  obtain ⟨hk, he⟩ := List.getElem?_eq_some_iff.1 h
  rw [List.drop_eq_getElem_cons hk, he, dgo, if_pos hc]
theorem dgo_step (l : List UInt8) (k : Nat) (c : UInt8) (n : Int) (h : l[k]? = some c) (hc : 48 ≤ c.toNat ∧ c.toNat ≤ 57) : dgo (l.drop k) n = dgo (l.drop (k + 1)) (10 * n + ((c.toNat : Int) - 48)) := by
  obtain ⟨hk, he⟩ := List.getElem?_eq_some_iff.1 h
  rw [List.drop_eq_getElem_cons hk, he, dgo, if_neg (by omega)]
theorem pow_le (k : Nat) (h : k ≤ 9) : (10 : Int) ^ k ≤ 1000000000 := by
  rcases (show k = 0 ∨ k = 1 ∨ k = 2 ∨ k = 3 ∨ k = 4 ∨ k = 5 ∨ k = 6 ∨ k = 7 ∨ k = 8 ∨ k = 9 by omega) with rfl | rfl | rfl | rfl | rfl | rfl | rfl | rfl | rfl | rfl <;> decide
/-- what the reference reads: one to ten digits -/
def digs (l : List UInt8) : Int := if l.length = 0 ∨ 10 < l.length then -1 else dgo l 0
/-- what the program reads: one to ten digits without leading zeros -/
def rdd (l : List UInt8) : Int := if l.length = 0 ∨ 10 < l.length ∨ (1 < l.length ∧ l[0]? = some 48) then -1 else dgo l 0
theorem digs_no {l : List UInt8} (h : l.length = 0 ∨ 10 < l.length) : digs l = -1 := if_pos h
theorem digs_yes {l : List UInt8} (h0 : 0 < l.length) (h : l.length ≤ 10) : digs l = dgo l 0 := if_neg (by omega)
theorem rdd_no {l : List UInt8} (h : l.length = 0 ∨ 10 < l.length) : rdd l = -1 := if_pos (by omega)
theorem rdd_zero {l : List UInt8} (h : 1 < l.length) (h0 : l[0]? = some 48) : rdd l = -1 := if_pos (Or.inr (Or.inr ⟨h, h0⟩))
theorem rdd_one {l : List UInt8} (h : l.length = 1) : rdd l = dgo l 0 := if_neg (by omega)
theorem rdd_yes {l : List UInt8} (h0 : 0 < l.length) (h : l.length ≤ 10) (h1 : l[0]? ≠ some 48) : rdd l = dgo l 0 := if_neg (by rintro (h2 | h2 | h2); omega; omega; exact h1 h2.2)
theorem dgo_cons_bad (c : UInt8) (r : List UInt8) (n : Int) (h : c.toNat < 48 ∨ 57 < c.toNat) : dgo (c :: r) n = -1 := by rw [dgo, if_pos h]
theorem dgo_cons (c : UInt8) (r : List UInt8) (n : Int) (h : 48 ≤ c.toNat ∧ c.toNat ≤ 57) : dgo (c :: r) n = dgo r (10 * n + ((c.toNat : Int) - 48)) := by rw [dgo, if_neg (by omega)]
theorem rdd_or (l : List UInt8) : rdd l = digs l ∨ (rdd l = -1 ∧ 1 < l.length ∧ l[0]? = some 48) := by
  unfold rdd digs
  by_cases h1 : l.length = 0 ∨ 10 < l.length
  · rw [if_pos (by omega), if_pos h1]; exact Or.inl rfl
  · by_cases h2 : 1 < l.length ∧ l[0]? = some 48
    · rw [if_pos (Or.inr (Or.inr h2))]; exact Or.inr ⟨rfl, h2⟩
    · rw [if_neg (by rintro (h | h | h); exact h1 (Or.inl h); exact h1 (Or.inr h); exact h2 h), if_neg h1]; exact Or.inl rfl
attribute [irreducible] dgo digs rdd

/-- all are digits -/
def Dig (l : List UInt8) : Prop := ∀ c ∈ l, 48 ≤ c.toNat ∧ c.toNat ≤ 57
theorem dgo_app : ∀ (l r : List UInt8) (n : Int), Dig l → dgo (l ++ r) n = dgo r (dgo l n) := by
  intro l
  induction l with
  | nil => intro r n _; rw [List.nil_append, dgo_nil]
  | cons c l ih =>
    intro r n h
    have hc := h c (by simp)
    rw [List.cons_append, dgo_cons c _ n hc, dgo_cons c _ n hc]
    exact ih r _ (fun x hx => h x (by simp [hx]))
theorem dgo_dig : ∀ (l : List UInt8) (n : Int), 0 ≤ n → 0 ≤ dgo l n → Dig l := by
  intro l
  induction l with
  | nil => intro n _ _ c hc; simp at hc
  | cons c l ih =>
    intro n hn h
    by_cases hc : 48 ≤ c.toNat ∧ c.toNat ≤ 57
    · rw [dgo_cons c _ n hc] at h
      have := ih _ (by omega) h
      intro x hx
      rcases List.mem_cons.1 hx with rfl | hx
      · exact hc
      · exact this x hx
    · rw [dgo_cons_bad c _ n (by omega)] at h; omega
theorem dgo_lo : ∀ (l : List UInt8) (n : Int), 0 ≤ n → -1 ≤ dgo l n := by
  intro l
  induction l with
  | nil => intro n h; rw [dgo_nil]; omega
  | cons c l ih =>
    intro n h
    by_cases hc : 48 ≤ c.toNat ∧ c.toNat ≤ 57
    · rw [dgo_cons c _ n hc]; exact ih _ (by omega)
    · rw [dgo_cons_bad c _ n (by omega)]; omega
theorem digs_dig {l : List UInt8} (h : 0 ≤ digs l) : Dig l := by
  by_cases h1 : l.length = 0 ∨ 10 < l.length
  · rw [digs_no h1] at h; omega
  · rw [digs_yes (by omega) (by omega)] at h; exact dgo_dig l 0 (by omega) h

theorem dg_dig : ∀ (k m : Nat), m ≤ k → Dig (dg m) := by
  intro k
  induction k with
  | zero =>
    intro m hm c hc
    rw [dg_small (by omega)] at hc
    have : c = d1 m := by simpa using hc
    rw [this, d1_toNat m (by omega)]; omega
  | succ k ih =>
    intro m hm c hc
    by_cases h : m < 10
    · rw [dg_small h] at hc
      have : c = d1 m := by simpa using hc
      rw [this, d1_toNat m h]; omega
    · rw [dg_big h] at hc
      rcases List.mem_append.1 hc with hc | hc
      · exact ih (m / 10) (by omega) c hc
      · have : c = d1 (m % 10) := by simpa using hc
        rw [this, d1_toNat _ (by omega)]; omega
theorem dg_val : ∀ (k m : Nat), m ≤ k → dgo (dg m) 0 = m := by
  intro k
  induction k with
  | zero =>
    intro m hm
    rw [dg_small (by omega), dgo_cons _ _ _ (by rw [d1_toNat m (by omega)]; omega), dgo_nil, d1_toNat m (by omega)]; omega
  | succ k ih =>
    intro m hm
    by_cases h : m < 10
    · rw [dg_small h, dgo_cons _ _ _ (by rw [d1_toNat m h]; omega), dgo_nil, d1_toNat m h]; omega
    · rw [dg_big h, dgo_app _ _ _ (dg_dig k _ (by omega)), ih (m / 10) (by omega), dgo_cons _ _ _ (by rw [d1_toNat _ (by omega)]; omega), dgo_nil, d1_toNat _ (by omega)]; omega
theorem dg_pos (m : Nat) : 0 < (dg m).length := List.length_pos_iff.2 (dg_ne m)
theorem dg_head : ∀ (k m : Nat), m ≤ k → 0 < m → (dg m)[0]? ≠ some 48 := by
  intro k
  induction k with
  | zero => intro m h1 h2; omega
  | succ k ih =>
    intro m h1 h2
    by_cases h : m < 10
    · rw [dg_small h]
      intro q
      have q' : d1 m = 48 := by simpa using q
      have := d1_toNat m h
      rw [q'] at this
      have e : (48 : UInt8).toNat = 48 := rfl
      omega
    · rw [dg_big h, List.getElem?_append_left (dg_pos _)]
      exact ih (m / 10) (by omega) (by omega)
theorem rdd_dg (m : Nat) : rdd (dg m) = digs (dg m) := by
  rcases rdd_or (dg m) with h | ⟨_, h1, h2⟩
  · exact h
  · exfalso
    by_cases h : m < 10
    · rw [dg_small h] at h1; simp at h1
    · exact dg_head m m (Nat.le_refl _) (by omega) h2
theorem digs_dg (m : Nat) (h : m < 10000000000) : digs (dg m) = m := by
  rw [digs_yes (dg_pos m) (dg_len 9 m (by omega)), dg_val m m (Nat.le_refl _)]

/-! ### the shape of a number's text -/
/-- what a number's text looks like -/
def Shape (l : List UInt8) : Prop :=
  l = [] ∨ (∃ m : Nat, l = 35 :: dg m) ∨ ∃ (sg : List UInt8) (a b : Nat), (sg = [] ∨ sg = [45]) ∧ 1 ≤ b ∧ b ≤ 9999 ∧ l = sg ++ (dg a ++ if b = 1 then [] else 47 :: dg b)
theorem fmtGo_shape (n : Int) : ∀ (r b : Nat), 1 ≤ b → r + b ≤ 10000 → Shape (fmtGo n r b) := by
  intro r
  induction r with
  | zero => intro b _ _; rw [fmtGo_stop]; exact Or.inr (Or.inl ⟨_, rfl⟩)
  | succ r ih =>
    intro b hb0 hb
    obtain ⟨a, ha⟩ : ∃ a, a = n * b % 1000000271 := ⟨_, rfl⟩
    by_cases k1 : a ≤ 9999
    · by_cases b1 : b = 1
      · subst b1; rw [fmtGo_pos1 n r a ha k1]; exact Or.inr (Or.inr ⟨[], a.toNat, 1, Or.inl rfl, by omega, by omega, by simp⟩)
      · rw [fmtGo_pos n r b a ha k1 b1]; exact Or.inr (Or.inr ⟨[], a.toNat, b, Or.inl rfl, by omega, by omega, by simp [b1]⟩)
    · by_cases k9 : 999990272 ≤ a
      · by_cases b1 : b = 1
        · subst b1; rw [fmtGo_neg1 n r a ha k9]; exact Or.inr (Or.inr ⟨[45], (1000000271 - a).toNat, 1, Or.inr rfl, by omega, by omega, by simp⟩)
        · rw [fmtGo_neg n r b a ha k9 b1]; exact Or.inr (Or.inr ⟨[45], (1000000271 - a).toNat, b, Or.inr rfl, by omega, by omega, by simp [b1]⟩)
      · rw [fmtGo_miss n r b a ha (by omega) (by omega)]
        exact ih (b + 1) (by omega) (by omega)
theorem fmtL_shape (n : Int) : Shape (fmtL n) := by
  by_cases h : 0 ≤ n ∧ n < 1000000271
  · rw [fmtL_yes n h]; exact fmtGo_shape n 9999 1 (by omega) (by omega)
  · rw [fmtL_no n h]; exact Or.inl rfl

/-! ### a text cut at each place where a sign stands -/
/-- the pieces -/
def sp (c : UInt8) : List UInt8 → List (List UInt8)
  | [] => [[]]
  | x :: r => if x = c then [] :: sp c r else match sp c r with | [] => [[x]] | h :: t => (x :: h) :: t
/-- what stands ahead is put to the first piece -/
def onto (cur : List UInt8) : List (List UInt8) → List (List UInt8)
  | [] => [cur]
  | h :: t => (cur ++ h) :: t
theorem sp_ne (c : UInt8) (l : List UInt8) : sp c l ≠ [] := by
  cases l with
  | nil => simp [sp]
  | cons x r =>
    rw [sp]
    split
    · simp
    · split <;> simp
theorem onto_nil (c : UInt8) (l : List UInt8) : onto [] (sp c l) = sp c l := by
  cases h : sp c l with
  | nil => exact absurd h (sp_ne c l)
  | cons a t => simp [onto]
theorem sp_hit (c : UInt8) (r cur : List UInt8) : onto cur (sp c (c :: r)) = cur :: onto [] (sp c r) := by
  rw [onto_nil, sp, if_pos rfl, onto, List.append_nil]
theorem sp_miss (c x : UInt8) (r cur : List UInt8) (h : x ≠ c) : onto cur (sp c (x :: r)) = onto (cur ++ [x]) (sp c r) := by
  rw [sp, if_neg h]
  cases hr : sp c r with
  | nil => exact absurd hr (sp_ne c r)
  | cons a t => simp [onto]
theorem sp_end (c : UInt8) (cur : List UInt8) : onto cur (sp c []) = [cur] := by simp [sp, onto]
/-- where no sign stands -/
theorem sp_none (c : UInt8) : ∀ (l cur : List UInt8), c ∉ l → onto cur (sp c l) = [cur ++ l] := by
  intro l
  induction l with
  | nil => intro cur _; rw [sp_end, List.append_nil]
  | cons x r ih =>
    intro cur h
    rw [sp_miss c x r cur (fun e => h (by simp [e])), ih _ (fun e => h (by simp [e]))]
    simp
theorem sp_first (c : UInt8) : ∀ (a b cur : List UInt8), c ∉ a → onto cur (sp c (a ++ c :: b)) = (cur ++ a) :: sp c b := by
  intro a
  induction a with
  | nil => intro b cur _; rw [List.nil_append, sp_hit, onto_nil, List.append_nil]
  | cons x r ih =>
    intro b cur h
    rw [List.cons_append, sp_miss c x _ cur (fun e => h (by simp [e])), ih _ _ (fun e => h (by simp [e]))]
    simp
theorem sp_whole (c : UInt8) (l : List UInt8) (h : c ∉ l) : sp c l = [l] := by
  have := sp_none c l [] h
  rwa [onto_nil, List.nil_append] at this
theorem sp_cut (c : UInt8) (a b : List UInt8) (h : c ∉ a) : sp c (a ++ c :: b) = a :: sp c b := by
  have := sp_first c a b [] h
  rwa [onto_nil, List.nil_append] at this
attribute [irreducible] sp onto
end Go.PlainNum
