/- The greatest list of levels of a tree, as the program and the reference reckon it. No program in sight. -/
import Derived.Test.YtojcnncaccnpeaaPlainLevels
namespace Go.PlainNum

/-- one place set -/
def stf {α : Type} (f : Nat → α) (k : Nat) (x : α) : Nat → α := fun j => if j = k then x else f j
theorem stf_at {α : Type} (f : Nat → α) (k : Nat) (x : α) : stf f k x k = x := if_pos rfl
theorem stf_ne {α : Type} (f : Nat → α) {k j : Nat} (x : α) (h : j ≠ k) : stf f k x j = f j := if_neg h

/-- whether a list stands ahead of another one -/
def ltL : List Int → List Int → Bool
  | _, [] => false
  | [], _ :: _ => true
  | x :: xs, y :: ys => if x = y then ltL xs ys else decide (x < y)
theorem ltL_step (xs ys : List Int) (i : Nat) (h1 : i < xs.length) (h2 : i < ys.length) (h : xs.getD i 0 = ys.getD i 0) : ltL (xs.drop i) (ys.drop i) = ltL (xs.drop (i + 1)) (ys.drop (i + 1)) := by
  rw [List.drop_eq_getElem_cons h1, List.drop_eq_getElem_cons h2]
  simp only [List.getD, List.getElem?_eq_getElem h1, List.getElem?_eq_getElem h2, Option.getD_some] at h
  simp only [ltL]
  rw [if_pos h]
theorem ltL_ne (xs ys : List Int) (i : Nat) (h1 : i < xs.length) (h2 : i < ys.length) (h : xs.getD i 0 ≠ ys.getD i 0) : ltL (xs.drop i) (ys.drop i) = decide (xs.getD i 0 < ys.getD i 0) := by
  rw [List.drop_eq_getElem_cons h1, List.drop_eq_getElem_cons h2]
  simp only [List.getD, List.getElem?_eq_getElem h1, List.getElem?_eq_getElem h2, Option.getD_some] at h ⊢
  simp only [ltL]
  rw [if_neg h]
theorem ltL_end (xs ys : List Int) (i : Nat) (hi : i ≤ xs.length) (hi2 : i ≤ ys.length) (h : i = xs.length ∨ i = ys.length) : ltL (xs.drop i) (ys.drop i) = decide (xs.length < ys.length) := by
  by_cases h2 : i = ys.length
  · rw [show ys.drop i = [] by apply List.drop_eq_nil_of_le; omega, decide_eq_false (by omega)]
    cases xs.drop i <;> rfl
  · have h1 : i = xs.length := by omega
    rw [show xs.drop i = [] by apply List.drop_eq_nil_of_le; omega, List.drop_eq_getElem_cons (show i < ys.length by omega), decide_eq_true (by omega)]
    rfl
theorem ltL_zero (xs ys : List Int) : ltL (xs.drop 0) (ys.drop 0) = ltL xs ys := rfl

/-- how two lists compare -/
def cmpV : List Int → List Int → Int
  | [], [] => 0
  | [], _ :: _ => -1
  | _ :: _, [] => 1
  | x :: xs, y :: ys => if x < y then -1 else if y < x then 1 else cmpV xs ys
theorem cmpV_lt : ∀ xs ys, decide (cmpV xs ys < 0) = ltL xs ys := by
  intro xs
  induction xs with
  | nil => intro ys; cases ys <;> rfl
  | cons x xs ih =>
    intro ys
    cases ys with
    | nil => rfl
    | cons y ys =>
      by_cases h : x = y
      · subst h
        have e1 : cmpV (x :: xs) (x :: ys) = cmpV xs ys := by simp only [cmpV]; rw [if_neg (by omega), if_neg (by omega)]
        have e2 : ltL (x :: xs) (x :: ys) = ltL xs ys := by simp only [ltL, if_true]
        rw [e1, e2]
        exact ih ys
      · have e2 : ltL (x :: xs) (y :: ys) = decide (x < y) := by simp only [ltL]; rw [if_neg h]
        by_cases h2 : x < y
        · have e1 : cmpV (x :: xs) (y :: ys) = -1 := by simp only [cmpV]; rw [if_pos h2]
          rw [e1, e2, decide_eq_true h2]; rfl
        · have e1 : cmpV (x :: xs) (y :: ys) = 1 := by simp only [cmpV]; rw [if_neg h2, if_pos (by omega)]
          rw [e1, e2, decide_eq_false h2]; rfl
theorem cmpV_step (xs ys : List Int) (i : Nat) (h1 : i < xs.length) (h2 : i < ys.length) (h : xs.getD i 0 = ys.getD i 0) : cmpV (xs.drop i) (ys.drop i) = cmpV (xs.drop (i + 1)) (ys.drop (i + 1)) := by
  rw [List.drop_eq_getElem_cons h1, List.drop_eq_getElem_cons h2]
  simp only [List.getD, List.getElem?_eq_getElem h1, List.getElem?_eq_getElem h2, Option.getD_some] at h
  simp only [cmpV]
  rw [if_neg (by omega), if_neg (by omega)]
theorem cmpV_ne (xs ys : List Int) (i : Nat) (h1 : i < xs.length) (h2 : i < ys.length) (h : xs.getD i 0 ≠ ys.getD i 0) : cmpV (xs.drop i) (ys.drop i) = if xs.getD i 0 < ys.getD i 0 then -1 else if ys.getD i 0 < xs.getD i 0 then 1 else 0 := by
  rw [List.drop_eq_getElem_cons h1, List.drop_eq_getElem_cons h2]
  simp only [List.getD, List.getElem?_eq_getElem h1, List.getElem?_eq_getElem h2, Option.getD_some] at h ⊢
  simp only [cmpV]
  by_cases q : xs[i] < ys[i]
  · rw [if_pos q, if_pos q]
  · rw [if_neg q, if_neg q, if_pos (by omega), if_pos (by omega)]
theorem cmpV_end1 (xs ys : List Int) (i : Nat) (h1 : i < xs.length) (h2 : ys.length ≤ i) : cmpV (xs.drop i) (ys.drop i) = 1 := by
  rw [List.drop_eq_getElem_cons h1, List.drop_eq_nil_of_le h2]; rfl
theorem cmpV_end2 (xs ys : List Int) (i : Nat) (h1 : xs.length ≤ i) (h2 : i < ys.length) : cmpV (xs.drop i) (ys.drop i) = -1 := by
  rw [List.drop_eq_nil_of_le h1, List.drop_eq_getElem_cons h2]; rfl
theorem cmpV_end3 (xs ys : List Int) (i : Nat) (h1 : xs.length ≤ i) (h2 : ys.length ≤ i) : cmpV (xs.drop i) (ys.drop i) = 0 := by
  rw [List.drop_eq_nil_of_le h1, List.drop_eq_nil_of_le h2]; rfl

/-- a list of levels of a tree, its root at 0 -/
structure Lv (l : List Int) : Prop where
  pos : 0 < l.length
  root : l.getD 0 0 = 0
  next : ∀ j, j + 1 < l.length → 1 ≤ l.getD (j + 1) 0 ∧ l.getD (j + 1) 0 ≤ l.getD j 0 + 1
theorem Lv.le {l : List Int} (h : Lv l) : ∀ j, j < l.length → 0 ≤ l.getD j 0 ∧ l.getD j 0 ≤ j := by
  intro j
  induction j with
  | zero => intro _; rw [h.root]; omega
  | succ j ih => intro hj; have h1 := ih (by omega); have h2 := h.next j hj; omega
theorem lv_of (l : List Int) (h : isLev l = true) : Lv l := by
  obtain ⟨h1, _, h3⟩ := isLev_spec l h
  refine ⟨by omega, (h3 0 (by omega)).1 rfl, fun j hj => ?_⟩
  have := (h3 (j + 1) hj).2 (by omega)
  rwa [show j + 1 - 1 = j by omega] at this

/-- a level taken among the branches -/
def prS (s : Nat × (Nat → List Int)) (n : Int) : Nat × (Nat → List Int) := if n < 2 then (s.1 + 1, stf s.2 s.1 [n - 1]) else (s.1, stf s.2 (s.1 - 1) (s.2 (s.1 - 1) ++ [n - 1]))
/-- the branches after j levels behind the root -/
def prts (l : List Int) : Nat → Nat × (Nat → List Int)
  | 0 => (0, fun _ => [])
  | j + 1 => prS (prts l j) (l.getD (j + 1) 0)
theorem prts_new {l : List Int} {j k : Nat} {R : Nat → List Int} {n : Int} (h : prts l j = (k, R)) (hn : l.getD (j + 1) 0 = n) (h2 : n < 2) : prts l (j + 1) = (k + 1, stf R k [n - 1]) := by
  show prS (prts l j) (l.getD (j + 1) 0) = _
  rw [h, hn]
  exact if_pos h2
theorem prts_old {l : List Int} {j k : Nat} {R : Nat → List Int} {n : Int} (h : prts l j = (k, R)) (hn : l.getD (j + 1) 0 = n) (h2 : ¬ n < 2) : prts l (j + 1) = (k, stf R (k - 1) (R (k - 1) ++ [n - 1])) := by
  show prS (prts l j) (l.getD (j + 1) 0) = _
  rw [h, hn]
  exact if_neg h2

theorem getD_snoc (l : List Int) (x : Int) (i : Nat) : (l ++ [x]).getD i 0 = if i < l.length then l.getD i 0 else if i = l.length then x else 0 := by
  by_cases h : i < l.length
  · rw [if_pos h]; simp [List.getD, List.getElem?_append_left h]
  · rw [if_neg h]
    by_cases h2 : i = l.length
    · subst h2; simp [List.getD]
    · rw [if_neg h2]; simp only [List.getD]; rw [List.getElem?_eq_none (by simp; omega)]; rfl
theorem lv_one (x : Int) (h : x = 0) : Lv [x] := ⟨by simp, by subst h; rfl, fun j hj => by simp at hj⟩
theorem lv_snoc {l : List Int} (h : Lv l) (x : Int) (h1 : 1 ≤ x) (h2 : x ≤ l.getD (l.length - 1) 0 + 1) : Lv (l ++ [x]) := by
  refine ⟨by simp, ?_, fun j hj => ?_⟩
  · rw [getD_snoc, if_pos h.pos]; exact h.root
  · simp only [List.length_append, List.length_cons, List.length_nil] at hj
    rw [getD_snoc, getD_snoc, if_pos (show j < l.length by omega)]
    by_cases hjl : j + 1 < l.length
    · rw [if_pos hjl]; exact h.next j hjl
    · rw [if_neg hjl, if_pos (by omega)]
      have e : j = l.length - 1 := by omega
      rw [e]; exact ⟨h1, h2⟩
/-- what the branches are like after j levels -/
structure Prt (l : List Int) (j k : Nat) (R : Nat → List Int) : Prop where
  le : k ≤ j
  some : 0 < j → 0 < k
  lv : ∀ x, x < k → Lv (R x)
  len : ∀ x, x < k → (R x).length ≤ j
  last : 0 < k → (R (k - 1)).getD ((R (k - 1)).length - 1) 0 = l.getD j 0 - 1
theorem prt_ok {l : List Int} (h : Lv l) : ∀ j, j < l.length → Prt l j (prts l j).1 (prts l j).2 := by
  intro j
  induction j with
  | zero => intro _; exact ⟨Nat.le_refl _, fun h => absurd h (by omega), fun x hx => absurd hx (by simp [prts]), fun x hx => absurd hx (by simp [prts]), fun hx => absurd hx (by simp [prts])⟩
  | succ j ih =>
    intro hj
    have P := ih (by omega)
    obtain ⟨⟨k, R⟩, hkR⟩ : ∃ s, prts l j = s := ⟨_, rfl⟩
    rw [hkR] at P
    obtain ⟨n, hn⟩ : ∃ n, l.getD (j + 1) 0 = n := ⟨_, rfl⟩
    have hx := h.next j hj
    have hle := h.le j (by omega)
    rw [hn] at hx
    have p1 : k ≤ j := P.le
    have p2 : 0 < j → 0 < k := P.some
    have p3 : ∀ x, x < k → Lv (R x) := P.lv
    have p4 : ∀ x, x < k → (R x).length ≤ j := P.len
    have p5 : 0 < k → (R (k - 1)).getD ((R (k - 1)).length - 1) 0 = l.getD j 0 - 1 := P.last
    by_cases h2 : n < 2
    · rw [prts_new hkR hn h2]
      have hn1 : n - 1 = 0 := by omega
      refine ⟨by show k + 1 ≤ j + 1; omega, fun _ => Nat.succ_pos _, fun x hxk => ?_, fun x hxk => ?_, fun _ => ?_⟩
      · show Lv (stf R k [n - 1] x)
        have hxk : x < k + 1 := hxk
        by_cases hxe : x = k
        · subst hxe; rw [stf_at]; exact lv_one _ hn1
        · rw [stf_ne _ _ hxe]; exact p3 x (by omega)
      · show (stf R k [n - 1] x).length ≤ j + 1
        have hxk : x < k + 1 := hxk
        by_cases hxe : x = k
        · subst hxe; rw [stf_at]; simp
        · rw [stf_ne _ _ hxe]; have := p4 x (by omega); omega
      · have e : stf R k [n - 1] (k + 1 - 1) = [n - 1] := by rw [Nat.add_sub_cancel, stf_at]
        show (stf R k [n - 1] (k + 1 - 1)).getD ((stf R k [n - 1] (k + 1 - 1)).length - 1) 0 = _
        rw [e, hn]; rfl
    · rw [prts_old hkR hn h2]
      have hj0 : 0 < j := by
        rcases Nat.eq_zero_or_pos j with h0 | h0
        · subst h0; rw [h.root] at hx; omega
        · exact h0
      have hk0 := p2 hj0
      have hL := p5 hk0
      have hlv := p3 (k - 1) (by omega)
      refine ⟨by show k ≤ j + 1; omega, fun _ => hk0, fun x hxk => ?_, fun x hxk => ?_, fun _ => ?_⟩
      · show Lv (stf R (k - 1) (R (k - 1) ++ [n - 1]) x)
        have hxk : x < k := hxk
        by_cases hxe : x = k - 1
        · subst hxe; rw [stf_at]; exact lv_snoc hlv _ (by omega) (by rw [hL]; omega)
        · rw [stf_ne _ _ hxe]; exact p3 x hxk
      · show (stf R (k - 1) (R (k - 1) ++ [n - 1]) x).length ≤ j + 1
        have hxk : x < k := hxk
        by_cases hxe : x = k - 1
        · subst hxe; rw [stf_at]; have := p4 (k - 1) (by omega); simp; omega
        · rw [stf_ne _ _ hxe]; have := p4 x hxk; omega
      · show (stf R (k - 1) (R (k - 1) ++ [n - 1]) (k - 1)).getD ((stf R (k - 1) (R (k - 1) ++ [n - 1]) (k - 1)).length - 1) 0 = _
        rw [stf_at, getD_snoc, if_neg (by simp), if_pos (by simp), hn]

/-- where p belongs among the first m rows -/
def pos (S : Nat → List Int) (p : List Int) : Nat → Nat
  | 0 => 0
  | m + 1 => if ltL (S m) p = true then pos S p m else m + 1
theorem pos_zero (S : Nat → List Int) (p : List Int) : pos S p 0 = 0 := rfl
theorem pos_yes {S : Nat → List Int} {p : List Int} {m : Nat} (h : ltL (S m) p = true) : pos S p (m + 1) = pos S p m := if_pos h
theorem pos_no {S : Nat → List Int} {p : List Int} {m : Nat} (h : ltL (S m) p = false) : pos S p (m + 1) = m + 1 := if_neg (by rw [h]; simp)
theorem pos_le (S : Nat → List Int) (p : List Int) : ∀ m, pos S p m ≤ m := by
  intro m
  induction m with
  | zero => exact Nat.le_refl _
  | succ m ih =>
    cases h : ltL (S m) p
    · rw [pos_no h]; omega
    · rw [pos_yes h]; omega
/-- p laid in at place k -/
def insA (S : Nat → List Int) (p : List Int) (k : Nat) : Nat → List Int := fun j => if j < k then S j else if j = k then p else S (j - 1)
/-- the first i rows sorted -/
def srt (R : Nat → List Int) : Nat → (Nat → List Int)
  | 0 => R
  | i + 1 => fun x => if x ≤ i then insA (srt R i) (R i) (pos (srt R i) (R i) i) x else R x
/-- the rows while row i is moved down to place j -/
def arr (R : Nat → List Int) (i j : Nat) : Nat → List Int := fun x => if x ≤ i then insA (srt R i) (R i) j x else R x
theorem srt_hi (R : Nat → List Int) : ∀ i x, i ≤ x → srt R i x = R x := by
  intro i
  cases i with
  | zero => intro x _; rfl
  | succ i => intro x h; exact if_neg (by omega)
theorem srt_succ (R : Nat → List Int) (i : Nat) : srt R (i + 1) = arr R i (pos (srt R i) (R i) i) := rfl
theorem arr_start (R : Nat → List Int) (i : Nat) : arr R i i = srt R i := by
  funext x
  unfold arr insA
  by_cases h : x ≤ i
  · rw [if_pos h]
    by_cases h2 : x < i
    · rw [if_pos h2]
    · have : x = i := by omega
      subst this
      rw [if_neg (by omega), if_pos rfl, srt_hi R x x (Nat.le_refl _)]
  · rw [if_neg h, srt_hi R i x (by omega)]
theorem arr_lo (R : Nat → List Int) (i j : Nat) (h : j ≤ i) (hj : 0 < j) : arr R i j (j - 1) = srt R i (j - 1) := by
  unfold arr insA
  rw [if_pos (by omega), if_pos (by omega)]
theorem arr_at (R : Nat → List Int) (i j : Nat) (h : j ≤ i) : arr R i j j = R i := by
  unfold arr insA
  rw [if_pos h, if_neg (by omega), if_pos rfl]
theorem arr_swap (R : Nat → List Int) (i j : Nat) (h : j ≤ i) (hj : 0 < j) : stf (stf (arr R i j) j (arr R i j (j - 1))) (j - 1) (arr R i j j) = arr R i (j - 1) := by
  funext x
  rw [arr_lo R i j h hj, arr_at R i j h]
  by_cases h1 : x = j - 1
  · subst h1
    rw [stf_at]
    unfold arr insA
    rw [if_pos (by omega), if_neg (by omega), if_pos rfl]
  · rw [stf_ne _ _ h1]
    by_cases h2 : x = j
    · subst h2
      rw [stf_at]
      unfold arr insA
      rw [if_pos h, if_neg (by omega), if_neg (by omega)]
    · rw [stf_ne _ _ h2]
      unfold arr insA
      by_cases h3 : x ≤ i
      · rw [if_pos h3, if_pos h3]
        by_cases h4 : x < j
        · rw [if_pos h4, if_pos (by omega)]
        · rw [if_neg h4, if_neg h2, if_neg (by omega), if_neg h1]
      · rw [if_neg h3, if_neg h3]
theorem srt_one (R : Nat → List Int) : srt R 1 = R := by
  rw [srt_succ]
  exact arr_start R 0
theorem srt_mem (R : Nat → List Int) : ∀ i x, x < i → ∃ y, y < i ∧ srt R i x = R y := by
  intro i
  induction i with
  | zero => intro x h; omega
  | succ i ih =>
    intro x h
    rw [srt_succ]
    unfold arr insA
    rw [if_pos (by omega)]
    obtain ⟨k, hk⟩ : ∃ k, pos (srt R i) (R i) i = k := ⟨_, rfl⟩
    have hki : k ≤ i := by rw [← hk]; exact pos_le _ _ _
    rw [hk]
    by_cases h1 : x < k
    · rw [if_pos h1]
      obtain ⟨y, hy, e⟩ := ih x (by omega)
      exact ⟨y, by omega, e⟩
    · rw [if_neg h1]
      by_cases h2 : x = k
      · rw [if_pos h2]; exact ⟨i, by omega, rfl⟩
      · rw [if_neg h2]
        obtain ⟨y, hy, e⟩ := ih (x - 1) (by omega)
        exact ⟨y, by omega, e⟩
theorem srt_congr {R R' : Nat → List Int} : ∀ i, (∀ x, x < i → R x = R' x) → ∀ x, x < i → srt R i x = srt R' i x := by
  intro i
  induction i with
  | zero => intro _ x h; omega
  | succ i ih =>
    intro h x hx
    have e := ih (fun y hy => h y (by omega))
    have ep : ∀ m, m ≤ i → pos (srt R i) (R i) m = pos (srt R' i) (R' i) m := by
      intro m
      induction m with
      | zero => intro _; rfl
      | succ m ihm =>
        intro hm
        show (if ltL (srt R i m) (R i) = true then pos (srt R i) (R i) m else m + 1) = (if ltL (srt R' i m) (R' i) = true then pos (srt R' i) (R' i) m else m + 1)
        rw [e m (by omega), h i (by omega), ← h i (by omega), ihm (by omega), h i (by omega)]
    rw [srt_succ, srt_succ]
    unfold arr insA
    rw [if_pos (show x ≤ i by omega), if_pos (show x ≤ i by omega), ep i (Nat.le_refl _), h i (by omega)]
    obtain ⟨k, hk⟩ : ∃ k, pos (srt R' i) (R' i) i = k := ⟨_, rfl⟩
    have hki : k ≤ i := by rw [← hk]; exact pos_le _ _ _
    rw [hk]
    by_cases h1 : x < k
    · rw [if_pos h1, if_pos h1, e x (by omega)]
    · rw [if_neg h1, if_neg h1]
      by_cases h2 : x = k
      · rw [if_pos h2, if_pos h2]
      · rw [if_neg h2, if_neg h2, e (x - 1) (by omega)]
/-- the first k rows, one behind the other, each level one more, behind a root -/
def cat (S : Nat → List Int) : Nat → List Int
  | 0 => [0]
  | k + 1 => cat S k ++ (S k).map (· + 1)
theorem cat_succ (S : Nat → List Int) (k : Nat) : cat S (k + 1) = cat S k ++ (S k).map (· + 1) := rfl
theorem cat_congr {S S' : Nat → List Int} : ∀ k, (∀ x, x < k → S x = S' x) → cat S k = cat S' k := by
  intro k
  induction k with
  | zero => intro _; rfl
  | succ k ih => intro h; rw [cat_succ, cat_succ, ih (fun x hx => h x (by omega)), h k (by omega)]
/-- the greatest list of levels -/
def frm : Nat → List Int → List Int
  | 0, _ => [0]
  | m + 1, l => cat (srt (fun i => frm m ((prts l (l.length - 1)).2 i)) (prts l (l.length - 1)).1) (prts l (l.length - 1)).1
theorem frm_succ {m k : Nat} {l : List Int} {R : Nat → List Int} (h : prts l (l.length - 1) = (k, R)) : frm (m + 1) l = cat (srt (fun i => frm m (R i)) k) k := by
  show cat (srt (fun i => frm m ((prts l (l.length - 1)).2 i)) (prts l (l.length - 1)).1) (prts l (l.length - 1)).1 = _
  rw [h]
/-- a bound on the length and on the levels -/
def bnd : Nat → Nat
  | 0 => 1
  | m + 1 => 1 + 5 * bnd m
def Bd (b : Nat) (m : Int) (l : List Int) : Prop := l.length ≤ b ∧ ∀ z ∈ l, 0 ≤ z ∧ z ≤ m
theorem cat_bd {S : Nat → List Int} {b : Nat} {m : Int} (hm : 0 ≤ m) : ∀ k, (∀ x, x < k → Bd b m (S x)) → Bd (1 + k * b) (m + 1) (cat S k) := by
  intro k
  induction k with
  | zero => intro _; exact ⟨by simp [cat], fun z hz => by simp [cat] at hz; subst hz; omega⟩
  | succ k ih =>
    intro h
    have h1 := ih (fun x hx => h x (by omega))
    have h2 := h k (by omega)
    rw [cat_succ]
    refine ⟨?_, fun z hz => ?_⟩
    · have a := h1.1
      have c := h2.1
      rw [List.length_append, List.length_map, Nat.succ_mul]; omega
    · rw [List.mem_append] at hz
      rcases hz with hz | hz
      · exact h1.2 z hz
      · rw [List.mem_map] at hz
        obtain ⟨y, hy, rfl⟩ := hz
        have := h2.2 y hy
        omega
theorem bnd_pos : ∀ m, 1 ≤ bnd m := by
  intro m
  cases m with
  | zero => exact Nat.le_refl _
  | succ m => show 1 ≤ 1 + 5 * bnd m; omega
theorem frm_bd : ∀ m l, Lv l → l.length ≤ 6 → Bd (bnd m) m (frm m l) := by
  intro m
  induction m with
  | zero => intro l _ _; exact ⟨by simp [frm, bnd], fun z hz => by simp [frm] at hz; subst hz; omega⟩
  | succ m ih =>
    intro l hl h6
    obtain ⟨⟨k, R⟩, hkR⟩ : ∃ s, prts l (l.length - 1) = s := ⟨_, rfl⟩
    have hp := hl.pos
    have P := prt_ok hl (l.length - 1) (by omega)
    rw [hkR] at P
    rw [frm_succ hkR]
    have p1 : k ≤ l.length - 1 := P.le
    have hS : ∀ x, x < k → Bd (bnd m) m (srt (fun i => frm m (R i)) k x) := fun x hx => by
      obtain ⟨y, hy, e⟩ := srt_mem (fun i => frm m (R i)) k x hx
      rw [e]
      exact ih (R y) (P.lv y hy) (by have q : (R y).length ≤ l.length - 1 := P.len y hy; omega)
    have q := cat_bd (S := srt (fun i => frm m (R i)) k) (b := bnd m) (m := m) (by omega) k hS
    refine ⟨Nat.le_trans q.1 ?_, fun z hz => by have := q.2 z hz; omega⟩
    show 1 + k * bnd m ≤ 1 + 5 * bnd m
    have : k * bnd m ≤ 5 * bnd m := Nat.mul_le_mul_right _ (by omega)
    omega
/-- row i under way -/
def catJ (S : Nat → List Int) (i j : Nat) : List Int := cat S i ++ ((S i).take j).map (· + 1)
theorem catJ_zero (S : Nat → List Int) (i : Nat) : catJ S i 0 = cat S i := by simp [catJ]
theorem catJ_full (S : Nat → List Int) (i j : Nat) (h : (S i).length ≤ j) : catJ S i j = cat S (i + 1) := by unfold catJ; rw [List.take_of_length_le h, cat_succ]
theorem catJ_succ (S : Nat → List Int) (i j : Nat) (h : j < (S i).length) : catJ S i (j + 1) = catJ S i j ++ [(S i).getD j 0 + 1] := by
  unfold catJ
  rw [List.take_succ_eq_append_getElem h, List.map_append, List.append_assoc]
  simp [List.getD, List.getElem?_eq_getElem h]
theorem catJ_len (S : Nat → List Int) (i j : Nat) (h : j ≤ (S i).length) : (catJ S i j).length = (cat S i).length + j := by
  unfold catJ
  simp; omega
theorem cat_len {S : Nat → List Int} {b : Nat} {m : Int} (hm : 0 ≤ m) (k : Nat) (h : ∀ x, x < k → Bd b m (S x)) : (cat S k).length ≤ 1 + k * b := (cat_bd hm k h).1
theorem cat_pos (S : Nat → List Int) : ∀ k, 0 < (cat S k).length := by
  intro k
  cases k with
  | zero => exact Nat.zero_lt_one
  | succ k => rw [cat_succ, List.length_append]; have := cat_pos S k; omega
theorem bnd_5 : ∀ m, m ≤ 5 → bnd m ≤ 4000 := by
  intro m h
  have : m = 0 ∨ m = 1 ∨ m = 2 ∨ m = 3 ∨ m = 4 ∨ m = 5 := by omega
  rcases this with rfl | rfl | rfl | rfl | rfl | rfl <;> decide
/-- rows of which the first i are brought into form -/
def mixF (F R : Nat → List Int) (i : Nat) : Nat → List Int := fun x => if x < i then F x else R x
theorem mixF_zero (F R : Nat → List Int) : mixF F R 0 = R := by funext x; exact if_neg (by omega)
theorem mixF_at (F R : Nat → List Int) (i : Nat) : mixF F R i i = R i := if_neg (by omega)
theorem mixF_succ (F R : Nat → List Int) (i : Nat) : stf (mixF F R i) i (F i) = mixF F R (i + 1) := by
  funext x
  unfold mixF
  by_cases h : x = i
  · subst h; rw [stf_at, if_pos (by omega)]
  · rw [stf_ne _ _ h]
    by_cases h2 : x < i
    · rw [if_pos h2, if_pos (by omega)]
    · rw [if_neg h2, if_neg (by omega)]
theorem mixF_lt (F R : Nat → List Int) (k x : Nat) (h : x < k) : mixF F R k x = F x := if_pos h
attribute [irreducible] ltL cmpV catJ mixF prS pos insA arr
end Go.PlainNum
