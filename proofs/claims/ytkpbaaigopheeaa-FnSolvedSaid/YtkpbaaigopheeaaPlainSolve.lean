/- What the reduction gives solves the system, and its pivots tell whether there is a solution. No program in sight. -/
import Derived.Test.YtkpbaaigopheeaaPlainGauss
import Derived.Test.YtkpbaaigopheeaaPlainRoots
namespace Go.PlainNum

/-- the sum of the first numbers of f, each times g's -/
def dot (f g : Nat → Int) : Nat → Int
  | 0 => 0
  | k + 1 => dot f g k + f k * g k
theorem dot_succ (f g : Nat → Int) (k : Nat) : dot f g (k + 1) = dot f g k + f k * g k := rfl
theorem dot_congr {f f' g g' : Nat → Int} : ∀ k, (∀ j, j < k → f j = f' j) → (∀ j, j < k → g j = g' j) → dot f g k = dot f' g' k := by
  intro k
  induction k with
  | zero => intro _ _; rfl
  | succ k ih =>
    intro h1 h2
    rw [dot_succ, dot_succ, ih (fun j hj => h1 j (by omega)) (fun j hj => h2 j (by omega)), h1 k (by omega), h2 k (by omega)]
theorem dot_lin {f' f g x : Nat → Int} {a b : Int} : ∀ V, (∀ j, j < V → (1000000271 : Int) ∣ f' j - (a * f j + b * g j)) → (1000000271 : Int) ∣ dot f' x V - (a * dot f x V + b * dot g x V) := by
  intro V
  induction V with
  | zero => intro _; simp [dot]
  | succ V ih =>
    intro h
    have h1 := ih (fun j hj => h j (by omega))
    have h2 : (1000000271 : Int) ∣ (f' V - (a * f V + b * g V)) * x V := Int.dvd_mul_of_dvd_left (h V (by omega))
    have e : dot f' x (V + 1) - (a * dot f x (V + 1) + b * dot g x (V + 1)) = (dot f' x V - (a * dot f x V + b * dot g x V)) + (f' V - (a * f V + b * g V)) * x V := by
      simp only [dot_succ]
      rw [Int.sub_mul, Int.add_mul, Int.mul_add a, Int.mul_add b, Int.mul_assoc a, Int.mul_assoc b]
      omega
    rw [e]
    exact Int.dvd_add h1 h2
theorem dvd_res (a : Int) : (1000000271 : Int) ∣ res a - a := by unfold res; omega

/-- each row's sum with y is 0 -/
def Kn (n V : Nat) (M : Nat → Nat → Int) (y : Nat → Int) : Prop := ∀ i, i < n → (1000000271 : Int) ∣ dot (M i) y V

theorem Kn.swp_back {n V : Nat} {M : Nat → Nat → Int} {y : Nat → Int} {a b : Nat} (ha : a < n) (hb : b < n) (h : Kn n V (swp M a b) y) : Kn n V M y := by
  intro i hi
  by_cases h1 : i = a
  · subst h1
    have := h b hb
    rwa [swp_at] at this
  · by_cases h2 : i = b
    · subst h2
      have := h a ha
      unfold swp at this
      rwa [if_pos rfl] at this
    · have := h i hi
      unfold swp at this
      rwa [if_neg h1, if_neg h2] at this
theorem Kn.scl_back {n V : Nat} {M : Nat → Nat → Int} {y : Nat → Int} {t : Nat} {k : Int} (hk : ¬ (1000000271 : Int) ∣ k) (h : Kn n V (scl M t k V) y) : Kn n V M y := by
  intro i hi
  by_cases ht : i = t
  · subst ht
    have h1 := h i hi
    have h2 : (1000000271 : Int) ∣ dot (scl M i k V i) y V - (k * dot (M i) y V + 0 * dot (M i) y V) := dot_lin V (fun j hj => by
      unfold scl
      rw [if_pos ⟨rfl, hj⟩, Int.zero_mul, Int.add_zero, Int.mul_comm k]
      exact dvd_res _)
    have h3 : (1000000271 : Int) ∣ k * dot (M i) y V := by
      rw [Int.zero_mul, Int.add_zero] at h2
      have := Int.dvd_sub h1 h2
      rwa [show dot (scl M i k V i) y V - (dot (scl M i k V i) y V - k * dot (M i) y V) = k * dot (M i) y V by omega] at this
    rcases pr_int h3 with h4 | h4
    · exact absurd h4 hk
    · exact h4
  · have h1 := h i hi
    have e : scl M t k V i = M i := by funext j; unfold scl; rw [if_neg (fun q => ht q.1)]
    rwa [e] at h1
theorem Kn.elm_back {n V : Nat} {M : Nat → Nat → Int} {y : Nat → Int} {t c : Nat} (ht : t < n) (h : Kn n V (elm M t c V n) y) : Kn n V M y := by
  have et : elm M t c V n t = M t := by funext j; exact elm_t M t c V n j
  have h0 := h t ht
  rw [et] at h0
  intro i hi
  by_cases hit : i = t
  · subst hit; exact h0
  · have h1 := h i hi
    have h2 : (1000000271 : Int) ∣ dot (elm M t c V n i) y V - (1 * dot (M i) y V + (-M i c) * dot (M t) y V) := dot_lin V (fun j hj => by
      unfold elm
      rw [if_pos ⟨hit, hi, hj⟩, Int.one_mul, Int.neg_mul, ← Int.sub_eq_add_neg]
      exact dvd_res _)
    have h3 := Int.dvd_sub h1 h2
    have h4 : (1000000271 : Int) ∣ M i c * dot (M t) y V := Int.dvd_mul_of_dvd_right h0
    have h5 := Int.dvd_add h3 h4
    rw [Int.one_mul, Int.neg_mul] at h5
    rwa [show dot (elm M t c V n i) y V - (dot (elm M t c V n i) y V - (dot (M i) y V + -(M i c * dot (M t) y V))) + M i c * dot (M t) y V = dot (M i) y V by omega] at h5

theorem not_dvd_inv {x : Int} (h0 : 0 ≤ x) (h1 : x < 1000000271) (h : x ≠ 0) : ¬ (1000000271 : Int) ∣ pw x 1000000269 ∧ res (x * pw x 1000000269) = 1 := by
  have hx : res x ≠ 0 := by rw [res_of x h0 h1]; exact h
  have e := mul_inv x hx
  refine ⟨fun hd => ?_, e⟩
  have : res (x * pw x 1000000269) = 0 := (res_zero_iff _).2 (Int.dvd_mul_of_dvd_right hd)
  omega
theorem gau_nm {n V : Nat} {M : Nat → Nat → Int} (hN : Nm n V M) (j : Nat) : Nm n V (gau n V M j).2 := by
  induction j with
  | zero => exact hN
  | succ j ih =>
    show Nm n V (gst n V j (gau n V M j)).2
    have hl := gau_len n V M j
    by_cases h : fd (gau n V M j).2 j n (gau n V M j).1.length < n
    · rw [gst_yes h]
      have := (fd_le (gau n V M j).2 j n n (gau n V M j).1.length (by omega) hl).1
      exact ((ih.swp h (by omega)).scl _ _ _).elm _ _ _ _
    · rw [gst_no h]; exact ih
theorem gau_back {n V : Nat} {M : Nat → Nat → Int} {y : Nat → Int} (hN : Nm n V M) : ∀ j, j ≤ V → Kn n V (gau n V M j).2 y → Kn n V M y := by
  intro j
  induction j with
  | zero => intro _ h; exact h
  | succ j ih =>
    intro hj h
    apply ih (by omega)
    have h' : Kn n V (gst n V j (gau n V M j)).2 y := h
    have hl := gau_len n V M j
    have hNj := gau_nm hN j
    by_cases hf : fd (gau n V M j).2 j n (gau n V M j).1.length < n
    · rw [gst_yes hf] at h'
      have hlo := (fd_le (gau n V M j).2 j n n (gau n V M j).1.length (by omega) hl).1
      have hnz := fd_nz (gau n V M j).2 j n n (gau n V M j).1.length (by omega) hl hf
      have hb := hNj _ j hf (by omega)
      exact Kn.swp_back hf (by omega) (Kn.scl_back (not_dvd_inv hb.1 hb.2 hnz).1 (Kn.elm_back (by omega) h'))
    · rw [gst_no hf] at h'; exact h'

/-- the form to which the table is brought: the pivots' columns are unit columns, and what is below has zeros only -/
structure Rdf (n j : Nat) (s : List Nat × (Nat → Nat → Int)) : Prop where
  len : s.1.length ≤ n
  lt : ∀ i, i < s.1.length → s.1.getD i 0 < j
  ne : ∀ i i', i < s.1.length → i' < s.1.length → i ≠ i' → s.1.getD i 0 ≠ s.1.getD i' 0
  unit : ∀ i a, i < s.1.length → a < n → s.2 a (s.1.getD i 0) = if a = i then 1 else 0
  low : ∀ a c, s.1.length ≤ a → a < n → c < j → s.2 a c = 0

theorem getD_app (l : List Nat) (c i : Nat) : (l ++ [c]).getD i 0 = if i < l.length then l.getD i 0 else if i = l.length then c else 0 := by
  by_cases h : i < l.length
  · rw [if_pos h]; simp [List.getD, List.getElem?_append_left h]
  · rw [if_neg h]
    by_cases h2 : i = l.length
    · subst h2; simp [List.getD]
    · rw [if_neg h2]; simp only [List.getD]; rw [List.getElem?_eq_none (by simp; omega)]; rfl
theorem res_zero : res 0 = 0 := rfl
theorem fd_zero (M : Nat → Nat → Int) (c n : Nat) : ∀ (d i : Nat), n - i ≤ d → fd M c n i = n → ∀ a, i ≤ a → a < n → M a c = 0 := by
  intro d
  induction d with
  | zero => intro i h1 _ a h3 h4; omega
  | succ d ih =>
    intro i h1 h2 a h3 h4
    by_cases h : i < n ∧ M i c = 0
    · by_cases hai : a = i
      · subst hai; exact h.2
      · rw [← fd_go h.1 h.2] at h2
        exact ih (i + 1) (by omega) h2 a (by omega) h4
    · rw [fd_end h] at h2; omega

theorem gst_rdf {n V c : Nat} {s : List Nat × (Nat → Nat → Int)} (hc : c < V) (hN : Nm n V s.2) (h : Rdf n c s) : Rdf n (c + 1) (gst n V c s) := by
  obtain ⟨pv, M⟩ := s
  obtain ⟨t, ht⟩ : ∃ t, pv.length = t := ⟨_, rfl⟩
  have hlen : t ≤ n := ht ▸ h.len
  have hlt : ∀ i, i < t → pv.getD i 0 < c := fun i hi => h.lt i (by rw [ht]; exact hi)
  have hne : ∀ i i', i < t → i' < t → i ≠ i' → pv.getD i 0 ≠ pv.getD i' 0 := fun i i' hi hi' => h.ne i i' (by rw [ht]; exact hi) (by rw [ht]; exact hi')
  have hunit : ∀ i a, i < t → a < n → M a (pv.getD i 0) = if a = i then 1 else 0 := fun i a hi ha => h.unit i a (by rw [ht]; exact hi) ha
  have hlow : ∀ a c', t ≤ a → a < n → c' < c → M a c' = 0 := fun a c' h1 h2 h3 => h.low a c' (by rw [ht]; exact h1) h2 h3
  have hfl := fd_le M c n n t (by omega) hlen
  by_cases hf : fd M c n t < n
  · have e := gst_yes (n := n) (W := V) (c := c) (s := (pv, M)) (by show fd M c n pv.length < n; rw [ht]; exact hf)
    rw [e]
    simp only [ht]
    have hnz := fd_nz M c n n t (by omega) hlen hf
    obtain ⟨a0, ha0⟩ : ∃ a, fd M c n t = a := ⟨_, rfl⟩
    rw [ha0] at hf hnz hfl ⊢
    have hb := hN a0 c hf hc
    have hinv := (not_dvd_inv hb.1 hb.2 hnz).2
    obtain ⟨k, hk⟩ : ∃ k, pw (M a0 c) 1000000269 = k := ⟨_, rfl⟩
    rw [hk] at hinv ⊢
    have htn : t < n := by omega
    -- the old columns below
    have m2low : ∀ a c', t ≤ a → a < n → c' < c → swp M a0 t a c' = 0 := by
      intro a c' h1 h2 h3
      unfold swp
      split
      · exact hlow t c' (Nat.le_refl _) htn h3
      · split
        · exact hlow a0 c' hfl.1 hf h3
        · exact hlow a c' h1 h2 h3
    have m2unit : ∀ i a, i < t → a < n → swp M a0 t a (pv.getD i 0) = if a = i then 1 else 0 := by
      intro i a hi ha
      unfold swp
      split
      · rename_i q
        rw [hunit i t hi htn, if_neg (by omega), if_neg (by omega)]
      · split
        · rw [hunit i a0 hi hf, if_neg (by omega), if_neg (by omega)]
        · exact hunit i a hi ha
    have m2top : swp M a0 t t c = M a0 c := by rw [swp_at]
    obtain ⟨M2, hM2⟩ : ∃ M2, swp M a0 t = M2 := ⟨_, rfl⟩
    rw [hM2] at m2low m2unit m2top ⊢
    have m3top : ∀ c', c' < V → M2 t c' = 0 → scl M2 t k V t c' = 0 := by
      intro c' h1 h2
      unfold scl
      rw [if_pos ⟨rfl, h1⟩, h2, Int.zero_mul]; rfl
    have m3one : scl M2 t k V t c = 1 := by
      unfold scl
      rw [if_pos ⟨rfl, hc⟩, m2top]; exact hinv
    have m3other : ∀ a c', a ≠ t → scl M2 t k V a c' = M2 a c' := by
      intro a c' h1
      unfold scl
      rw [if_neg (fun q => h1 q.1)]
    obtain ⟨M3, hM3⟩ : ∃ M3, scl M2 t k V = M3 := ⟨_, rfl⟩
    rw [hM3] at m3top m3one m3other ⊢
    have m4 : ∀ a c', a < n → c' < V → elm M3 t c V n a c' = if a = t then M3 t c' else res (M3 a c' - M3 a c * M3 t c') := by
      intro a c' h1 h2
      by_cases hat : a = t
      · subst hat; rw [elm_t, if_pos rfl]
      · unfold elm
        rw [if_pos ⟨hat, h1, h2⟩, if_neg hat]
    refine ⟨by simp; omega, fun i hi => ?_, fun i i' hi hi' hii => ?_, fun i a hi ha => ?_, fun a c' h1 h2 h3 => ?_⟩
    · simp only [List.length_append, List.length_cons, List.length_nil] at hi
      show (pv ++ [c]).getD i 0 < c + 1
      rw [getD_app, ht]
      by_cases hit : i < t
      · rw [if_pos hit]; have := hlt i hit; omega
      · rw [if_neg hit, if_pos (by omega)]; omega
    · simp only [List.length_append, List.length_cons, List.length_nil] at hi hi'
      show (pv ++ [c]).getD i 0 ≠ (pv ++ [c]).getD i' 0
      rw [getD_app, getD_app, ht]
      by_cases hit : i < t
      · by_cases hit' : i' < t
        · rw [if_pos hit, if_pos hit']; exact hne i i' hit hit' hii
        · rw [if_pos hit, if_neg hit', if_pos (by omega)]; have := hlt i hit; omega
      · by_cases hit' : i' < t
        · rw [if_neg hit, if_pos hit', if_pos (by omega)]; have := hlt i' hit'; omega
        · omega
    · simp only [List.length_append, List.length_cons, List.length_nil] at hi
      show elm M3 t c V n a ((pv ++ [c]).getD i 0) = _
      rw [getD_app, ht]
      by_cases hit : i < t
      · rw [if_pos hit]
        have hcV := hlt i hit
        rw [m4 a _ ha (by omega)]
        have z : M3 t (pv.getD i 0) = 0 := m3top _ (by omega) (by rw [m2unit i t hit htn, if_neg (by omega)])
        by_cases hat : a = t
        · rw [if_pos hat, z, if_neg (by omega)]
        · rw [if_neg hat, z, Int.mul_zero, Int.sub_zero, m3other a _ hat, m2unit i a hit ha]
          split
          · rfl
          · rfl
      · have hit2 : i = t := by omega
        rw [if_neg hit, if_pos hit2, m4 a c ha hc, hit2]
        by_cases hat : a = t
        · rw [if_pos hat, if_pos hat, m3one]
        · rw [if_neg hat, if_neg hat, m3one, Int.mul_one, Int.sub_self]; rfl
    · simp only [List.length_append, List.length_cons, List.length_nil] at h1
      show elm M3 t c V n a c' = 0
      rw [m4 a c' h2 (by omega), if_neg (by omega)]
      by_cases hcc : c' < c
      · rw [m3top c' (by omega) (m2low t c' (Nat.le_refl _) htn hcc), m3other a c' (by omega), m2low a c' (by omega) h2 hcc, Int.mul_zero]; rfl
      · obtain rfl : c' = c := by omega
        rw [m3one, Int.mul_one, Int.sub_self]; rfl
  · have e := gst_no (n := n) (W := V) (c := c) (s := (pv, M)) (by show ¬ fd M c n pv.length < n; rw [ht]; exact hf)
    rw [e]
    refine ⟨h.len, fun i hi => by have := h.lt i hi; omega, h.ne, h.unit, fun a c' h1 h2 h3 => ?_⟩
    by_cases hcc : c' < c
    · exact h.low a c' h1 h2 hcc
    · obtain rfl : c' = c := by omega
      exact fd_zero M c' n n t (by omega) (by omega) a (ht ▸ h1) h2
theorem gau_rdf {n V : Nat} {M : Nat → Nat → Int} (hN : Nm n V M) : ∀ j, j ≤ V → Rdf n j (gau n V M j) := by
  intro j
  induction j with
  | zero => intro _; exact ⟨Nat.zero_le _, fun i hi => absurd hi (by simp [gau]), fun i _ hi => absurd hi (by simp [gau]), fun i _ hi => absurd hi (by simp [gau]), fun _ _ _ _ h => absurd h (by omega)⟩
  | succ j ih => intro hj; exact gst_rdf (by omega) (gau_nm hN j) (ih (by omega))

/-- the vector that is read off: the first k pivots' columns have the right side's numbers, all others are 0 -/
def sx (pv : List Nat) (M : Nat → Nat → Int) (W : Nat) : Nat → Nat → Int
  | 0 => fun _ => 0
  | k + 1 => fun c => if c = pv.getD k 0 then M k W else sx pv M W k c
theorem sx_succ (pv : List Nat) (M : Nat → Nat → Int) (W k c : Nat) : sx pv M W (k + 1) c = if c = pv.getD k 0 then M k W else sx pv M W k c := rfl
theorem sx_at {pv : List Nat} {M : Nat → Nat → Int} {W : Nat} (hne : ∀ i i', i < pv.length → i' < pv.length → i ≠ i' → pv.getD i 0 ≠ pv.getD i' 0) :
    ∀ k, k ≤ pv.length → ∀ i, i < k → sx pv M W k (pv.getD i 0) = M i W := by
  intro k
  induction k with
  | zero => intro _ i hi; omega
  | succ k ih =>
    intro hk i hi
    rw [sx_succ]
    by_cases h : i = k
    · subst h; rw [if_pos rfl]
    · rw [if_neg (hne i k (by omega) (by omega) h)]
      exact ih (by omega) i (by omega)
theorem sx_off {pv : List Nat} {M : Nat → Nat → Int} {W c : Nat} : ∀ k, (∀ i, i < k → c ≠ pv.getD i 0) → sx pv M W k c = 0 := by
  intro k
  induction k with
  | zero => intro _; rfl
  | succ k ih =>
    intro h
    rw [sx_succ, if_neg (h k (by omega))]
    exact ih (fun i hi => h i (by omega))
theorem dot_none {f g : Nat → Int} : ∀ W, (∀ c, c < W → f c * g c = 0) → dot f g W = 0 := by
  intro W
  induction W with
  | zero => intro _; rfl
  | succ W ih => intro h; rw [dot_succ, ih (fun c hc => h c (by omega)), h W (by omega)]; rfl
theorem dot_one {f g : Nat → Int} {p : Nat} {v : Int} : ∀ W, p < W → (∀ c, c < W → f c * g c = if c = p then v else 0) → dot f g W = v := by
  intro W
  induction W with
  | zero => intro h _; omega
  | succ W ih =>
    intro hp h
    rw [dot_succ, h W (by omega)]
    by_cases hW : W = p
    · subst hW
      rw [if_pos rfl, dot_none W (fun c hc => by rw [h c (by omega), if_neg (by omega)])]; omega
    · rw [if_neg hW, ih (by omega) (fun c hc => h c (by omega))]; omega

/-- where no row below the pivots has a right side, the vector solves all rows -/
theorem solved {n W : Nat} {M : Nat → Nat → Int} (hN : Nm n (W + 1) M) {pv : List Nat} {M' : Nat → Nat → Int} (hg : gau n (W + 1) M W = (pv, M')) (hz : ∀ a, pv.length ≤ a → a < n → M' a W = 0) :
    ∀ i, i < n → res (dot (M i) (sx pv M' W pv.length) W) = M i W := by
  have hr : Rdf n W (pv, M') := hg ▸ gau_rdf hN W (by omega)
  obtain ⟨t, ht⟩ : ∃ t, pv.length = t := ⟨_, rfl⟩
  have hx : ∀ k, k ≤ pv.length → ∀ i, i < k → sx pv M' W k (pv.getD i 0) = M' i W := sx_at hr.ne
  have hunit : ∀ i a, i < t → a < n → M' a (pv.getD i 0) = if a = i then 1 else 0 := fun i a hi ha => hr.unit i a (by rw [ht]; exact hi) ha
  have hlt : ∀ i, i < t → pv.getD i 0 < W := fun i hi => hr.lt i (by rw [ht]; exact hi)
  have hne : ∀ i i', i < t → i' < t → i ≠ i' → pv.getD i 0 ≠ pv.getD i' 0 := fun i i' hi hi' => hr.ne i i' (by rw [ht]; exact hi) (by rw [ht]; exact hi')
  have hlow : ∀ a c', t ≤ a → a < n → c' < W → M' a c' = 0 := fun a c' h1 h2 h3 => hr.low a c' (by rw [ht]; exact h1) h2 h3
  rw [ht] at hz hx ⊢
  let y : Nat → Int := fun c => if c < W then sx pv M' W t c else -1
  have hK : Kn n (W + 1) M' y := by
    intro a ha
    have e : dot (M' a) y (W + 1) = dot (M' a) (sx pv M' W t) W - M' a W := by
      rw [dot_succ, dot_congr W (f' := M' a) (g' := sx pv M' W t) (fun _ _ => rfl) (fun j hj => if_pos hj)]
      show _ + M' a W * (if W < W then _ else -1) = _
      rw [if_neg (by omega)]; omega
    rw [e]
    by_cases hat : a < t
    · rw [dot_one W (hlt a hat) (v := M' a W) (fun c hc => ?_), Int.sub_self]
      · exact Int.dvd_zero _
      · by_cases hcp : c = pv.getD a 0
        · rw [if_pos hcp, hcp, hunit a a hat ha, if_pos rfl, hx t (Nat.le_refl _) a hat, Int.one_mul]
        · rw [if_neg hcp]
          by_cases hex : ∃ i, i < t ∧ c = pv.getD i 0
          · obtain ⟨i, hi, rfl⟩ := hex
            rw [hunit i a hi ha, if_neg (fun q => hcp (by rw [q])), Int.zero_mul]
          · rw [sx_off t (fun i hi q => hex ⟨i, hi, q⟩), Int.mul_zero]
    · rw [dot_none W (fun c hc => by rw [hlow a c (by omega) ha hc, Int.zero_mul]), hz a (by omega) ha]
      exact Int.dvd_zero _
  have hB : Kn n (W + 1) M y := gau_back hN W (by omega) (by rw [hg]; exact hK)
  intro i hi
  have h1 := hB i hi
  have e : dot (M i) y (W + 1) = dot (M i) (sx pv M' W t) W - M i W := by
    rw [dot_succ, dot_congr W (f' := M i) (g' := sx pv M' W t) (fun _ _ => rfl) (fun j hj => if_pos hj)]
    show _ + M i W * (if W < W then _ else -1) = _
    rw [if_neg (by omega)]; omega
  rw [e] at h1
  have h2 := (res_eq_iff _ _).2 h1
  rw [h2]
  have := hN i W hi (by omega)
  exact res_of _ this.1 this.2

theorem fd_congr {M M' : Nat → Nat → Int} {c n : Nat} : ∀ (d i : Nat), n - i ≤ d → (∀ a, a < n → M a c = M' a c) → fd M c n i = fd M' c n i := by
  intro d
  induction d with
  | zero => intro i h1 _; rw [fd_end (by omega), fd_end (by omega)]
  | succ d ih =>
    intro i h1 h
    by_cases hi : i < n ∧ M i c = 0
    · rw [← fd_go hi.1 hi.2, ← fd_go hi.1 (by rw [← h i hi.1]; exact hi.2)]
      exact ih (i + 1) (by omega) h
    · rw [fd_end hi, fd_end (fun q => hi ⟨q.1, by rw [h i q.1]; exact q.2⟩)]
/-- columns behind change nothing in those ahead -/
theorem gau_width {n W V : Nat} (hV : W ≤ V) {M1 M2 : Nat → Nat → Int} (h : Eqm n W M1 M2) : ∀ j, j ≤ W → (gau n W M1 j).1 = (gau n V M2 j).1 ∧ Eqm n W (gau n W M1 j).2 (gau n V M2 j).2 := by
  intro j
  induction j with
  | zero => intro _; exact ⟨rfl, h⟩
  | succ j ih =>
    intro hj
    obtain ⟨h1, h2⟩ := ih (by omega)
    show (gst n W j (gau n W M1 j)).1 = (gst n V j (gau n V M2 j)).1 ∧ Eqm n W (gst n W j (gau n W M1 j)).2 (gst n V j (gau n V M2 j)).2
    have hlen := gau_len n W M1 j
    revert h1 h2 hlen
    generalize gau n W M1 j = s1
    generalize gau n V M2 j = s2
    obtain ⟨pv, A⟩ := s1
    obtain ⟨pv', A'⟩ := s2
    intro (h1 : pv = pv') (h2 : Eqm n W A A') (hlen : pv.length ≤ n)
    subst h1
    have hfd : fd A j n pv.length = fd A' j n pv.length := fd_congr n pv.length (by omega) (fun a ha => h2 a j ha (by omega))
    have hfl := fd_le A j n n pv.length (by omega) hlen
    by_cases hf : fd A j n pv.length < n
    · rw [gst_yes (s := (pv, A)) hf, gst_yes (s := (pv, A')) (by show fd A' j n pv.length < n; rw [← hfd]; exact hf)]
      refine ⟨rfl, ?_⟩
      simp only
      rw [← hfd]
      obtain ⟨a, ha⟩ : ∃ a, fd A j n pv.length = a := ⟨_, rfl⟩
      rw [ha] at hf hfl ⊢
      rw [← h2 a j hf (by omega)]
      obtain ⟨k, hk⟩ : ∃ k, pw (A a j) 1000000269 = k := ⟨_, rfl⟩
      rw [hk]
      obtain ⟨t, ht⟩ : ∃ t, pv.length = t := ⟨_, rfl⟩
      rw [ht] at hfl ⊢
      have s2 : Eqm n W (swp A a t) (swp A' a t) := by
        intro x y hx hy
        unfold swp
        split
        · exact h2 t y (by omega) hy
        · split
          · exact h2 a y hf hy
          · exact h2 x y hx hy
      have s3 : Eqm n W (scl (swp A a t) t k W) (scl (swp A' a t) t k V) := by
        intro x y hx hy
        unfold scl
        by_cases hxt : x = t
        · rw [if_pos ⟨hxt, hy⟩, if_pos ⟨hxt, by omega⟩, s2 t y (by omega) hy]
        · rw [if_neg (fun q => hxt q.1), if_neg (fun q => hxt q.1)]; exact s2 x y hx hy
      intro x y hx hy
      unfold elm
      by_cases hxt : x = t
      · rw [if_neg (fun q => q.1 hxt), if_neg (fun q => q.1 hxt)]; exact s3 x y hx hy
      · rw [if_pos ⟨hxt, hx, hy⟩, if_pos ⟨hxt, hx, by omega⟩, s3 x y hx hy, s3 x j hx (by omega), s3 t y (by omega) hy]
    · rw [gst_no (s := (pv, A)) hf, gst_no (s := (pv, A')) (by show ¬ fd A' j n pv.length < n; rw [← hfd]; exact hf)]
      exact ⟨rfl, h2⟩
/-- how many of the first numbers aren't 0 -/
def nzs (f : Nat → Int) : Nat → Nat
  | 0 => 0
  | k + 1 => nzs f k + (if f k = 0 then 0 else 1)
theorem nzs_le_one (f : Nat → Int) (p : Nat) (v : Int) : ∀ W, nzs (fun c => if c = p then v else f c) W ≤ nzs f W + (if p < W then 1 else 0) := by
  intro W
  induction W with
  | zero => simp [nzs]
  | succ W ih =>
    show nzs (fun c => if c = p then v else f c) W + (if (if W = p then v else f W) = 0 then 0 else 1) ≤ nzs f W + (if f W = 0 then 0 else 1) + (if p < W + 1 then 1 else 0)
    by_cases h : W = p
    · subst h
      rw [if_neg (by omega)] at ih
      rw [if_pos (show W < W + 1 by omega)]
      split <;> split <;> omega
    · have e : (if W = p then v else f W) = f W := if_neg h
      rw [e]
      by_cases hp : p < W
      · rw [if_pos hp] at ih; rw [if_pos (show p < W + 1 by omega)]; omega
      · rw [if_neg hp] at ih; rw [if_neg (show ¬ p < W + 1 by omega)]; omega
theorem nzs_sx (pv : List Nat) (M : Nat → Nat → Int) (W : Nat) : ∀ k, nzs (sx pv M W k) W ≤ k := by
  intro k
  induction k with
  | zero =>
    have : ∀ W', nzs (sx pv M W 0) W' = 0 := by
      intro W'
      induction W' with
      | zero => rfl
      | succ W' ih => show nzs (sx pv M W 0) W' + (if (0 : Int) = 0 then 0 else 1) = 0; rw [ih, if_pos rfl]
    rw [this W]; omega
  | succ k ih =>
    have := nzs_le_one (sx pv M W k) (pv.getD k 0) (M k W) W
    have e : (fun c => if c = pv.getD k 0 then M k W else sx pv M W k c) = sx pv M W (k + 1) := rfl
    rw [e] at this
    split at this <;> omega
theorem nzs_le (f : Nat → Int) : ∀ W, nzs f W ≤ W := by
  intro W
  induction W with
  | zero => exact Nat.le_refl _
  | succ W ih => simp only [nzs]; split <;> omega
/-- one column more gives one pivot more exactly if a row below the pivots has a number there -/
theorem gau_last {n W : Nat} {M : Nat → Nat → Int} {pv : List Nat} {M' : Nat → Nat → Int} (hg : gau n (W + 1) M W = (pv, M')) :
    ((gau n (W + 1) M (W + 1)).1.length = pv.length ∧ ∀ a, pv.length ≤ a → a < n → M' a W = 0) ∨ ((gau n (W + 1) M (W + 1)).1.length = pv.length + 1 ∧ ∃ a, pv.length ≤ a ∧ a < n ∧ M' a W ≠ 0) := by
  have hl : pv.length ≤ n := by have := gau_len n (W + 1) M W; rw [hg] at this; exact this
  have hfl := fd_le M' W n n pv.length (by omega) hl
  have e : gau n (W + 1) M (W + 1) = gst n (W + 1) W (pv, M') := by
    show gst n (W + 1) W (gau n (W + 1) M W) = _
    rw [hg]
  rw [e]
  by_cases hf : fd M' W n pv.length < n
  · right
    rw [gst_yes (s := (pv, M')) hf]
    exact ⟨by simp, _, hfl.1, hf, fd_nz M' W n n pv.length (by omega) hl hf⟩
  · left
    rw [gst_no (s := (pv, M')) hf]
    exact ⟨rfl, fd_zero M' W n n pv.length (by omega) (by omega)⟩
end Go.PlainNum
