/- Plain arithmetic, no program in sight: the number 1000000271 is a prime, and Fermat's little theorem for it. -/
namespace Go.PlainNum

/-- the product of 2^k consecutive numbers from lo on -/
def prodR : Nat → Nat → Nat
  | 0, lo => lo
  | k + 1, lo => prodR k lo * prodR k (lo + 2 ^ k)

theorem dvd_prodR : ∀ (k lo d : Nat), lo ≤ d → d < lo + 2 ^ k → d ∣ prodR k lo := by
  intro k
  induction k with
  | zero =>
    intro lo d h1 h2
    have : d = lo := by simp at h2; omega
    subst this
    exact Nat.dvd_refl _
  | succ k ih =>
    intro lo d h1 h2
    rw [Nat.pow_succ] at h2
    rw [prodR]
    by_cases h : d < lo + 2 ^ k
    · exact Nat.dvd_trans (ih lo d h1 h) (Nat.dvd_mul_right _ _)
    · exact Nat.dvd_trans (ih (lo + 2 ^ k) d (by omega) (by omega)) (Nat.dvd_mul_left _ _)

/-- prime, in the form that is used -/
def Pr (p : Nat) : Prop := 1 < p ∧ ∀ d, d ∣ p → d = 1 ∨ d = p

theorem pr_of_gcd (p k : Nat) (h1 : 1 < p) (hk : p < (2 ^ k) * (2 ^ k)) (hg : Nat.gcd p (prodR k 1) = 1) : Pr p := by
  refine ⟨h1, ?_⟩
  intro d hd
  have small : ∀ e, e ∣ p → e < 2 ^ k → e = 1 := by
    intro e he hlt
    have hpos : 0 < e := Nat.pos_of_dvd_of_pos he (by omega)
    have h2 : e ∣ prodR k 1 := dvd_prodR k 1 e hpos (by omega)
    have h3 : e ∣ Nat.gcd p (prodR k 1) := Nat.dvd_gcd he h2
    rw [hg] at h3
    exact Nat.dvd_one.1 h3
  by_cases hlt : d < 2 ^ k
  · exact Or.inl (small d hd hlt)
  · obtain ⟨c, hc⟩ := hd
    have hcp : c ∣ p := ⟨d, by rw [hc, Nat.mul_comm]⟩
    have hclt : c < 2 ^ k := by
      apply Nat.lt_of_not_le
      intro hge
      have : 2 ^ k * 2 ^ k ≤ d * c := Nat.mul_le_mul (by omega) hge
      omega
    have := small c hcp hclt
    subst this
    right; omega

theorem gcd_one_of_pr {p a : Nat} (hp : Pr p) (h : ¬ p ∣ a) : Nat.gcd p a = 1 := by
  rcases hp.2 _ (Nat.gcd_dvd_left p a) with h1 | h1
  · exact h1
  · exact absurd (h1 ▸ Nat.gcd_dvd_right p a) h

theorem pr_mul {p a b : Nat} (hp : Pr p) (h : p ∣ a * b) : p ∣ a ∨ p ∣ b := by
  by_cases ha : p ∣ a
  · exact Or.inl ha
  · right
    have : Nat.Coprime p a := gcd_one_of_pr hp ha
    exact this.dvd_of_dvd_mul_left h

/-! ### lists -/
def lprod (l : List Nat) : Nat := l.foldr (· * ·) 1

theorem lprod_perm {l m : List Nat} (h : l.Perm m) : lprod l = lprod m := by
  induction h with
  | nil => rfl
  | cons x _ ih => simp [lprod] at ih ⊢; rw [ih]
  | swap x y l => simp [lprod]; exact Nat.mul_left_comm _ _ _
  | trans _ _ ih1 ih2 => exact ih1.trans ih2

theorem perm_of_sub : ∀ (l m : List Nat), l.Nodup → (∀ x ∈ l, x ∈ m) → m.length ≤ l.length → l.Perm m := by
  intro l
  induction l with
  | nil => intro m _ _ h; have : m = [] := List.length_eq_zero_iff.1 (by simpa using h); subst this; exact List.Perm.refl _
  | cons x t ih =>
    intro m hn hs hl
    have hx : x ∈ m := hs x (by simp)
    have hp := List.perm_cons_erase hx
    have hn' := List.nodup_cons.1 hn
    have : t.Perm (m.erase x) := by
      apply ih _ hn'.2
      · intro y hy
        have hne : y ≠ x := fun e => hn'.1 (e ▸ hy)
        exact (List.mem_erase_of_ne hne).2 (hs y (by simp [hy]))
      · rw [List.length_erase_of_mem hx]; simp at hl; omega
    exact (this.cons x).trans hp.symm

theorem lprod_map_mod (p a : Nat) (l : List Nat) : lprod (l.map fun x => a * x % p) % p = a ^ l.length * lprod l % p := by
  induction l with
  | nil => simp [lprod]
  | cons x t ih =>
    have e : lprod ((x :: t).map fun x => a * x % p) = (a * x % p) * lprod (t.map fun x => a * x % p) := by simp [lprod]
    have e2 : a ^ (x :: t).length * lprod (x :: t) = (a * x) * (a ^ t.length * lprod t) := by
      simp [lprod, Nat.pow_succ]; ac_rfl
    rw [e, e2, Nat.mul_mod, ih, Nat.mod_mod, ← Nat.mul_mod]

theorem not_dvd_lprod {p : Nat} (hp : Pr p) (l : List Nat) (h : ∀ x ∈ l, ¬ p ∣ x) : ¬ p ∣ lprod l := by
  induction l with
  | nil => intro hd; have := Nat.dvd_one.1 hd; have := hp.1; omega
  | cons x t ih =>
    intro hd
    rcases pr_mul hp (show p ∣ x * lprod t from hd) with h1 | h1
    · exact h x (by simp) h1
    · exact ih (fun y hy => h y (by simp [hy])) h1

theorem nodup_map_of_inj {f : Nat → Nat} : ∀ (l : List Nat), l.Nodup → (∀ x ∈ l, ∀ y ∈ l, f x = f y → x = y) → (l.map f).Nodup := by
  intro l
  induction l with
  | nil => intro _ _; simp
  | cons x t ih =>
    intro hn hf
    have hn' := List.nodup_cons.1 hn
    rw [List.map_cons, List.nodup_cons]
    refine ⟨?_, ih hn'.2 (fun a ha b hb => hf a (by simp [ha]) b (by simp [hb]))⟩
    intro hm
    obtain ⟨y, hy, e⟩ := List.mem_map.1 hm
    have := hf y (by simp [hy]) x (by simp) e
    exact hn'.1 (this ▸ hy)

theorem dvd_of_mul_mod_eq {p a x y : Nat} (hp : Pr p) (ha : ¬ p ∣ a) (_hxy : x ≤ y) (h : a * x % p = a * y % p) : p ∣ y - x := by
  have h1 : (a * y - a * x) % p = 0 := Nat.sub_mod_eq_zero_of_mod_eq h.symm
  rw [← Nat.mul_sub] at h1
  rcases pr_mul hp (Nat.dvd_of_mod_eq_zero h1) with h2 | h2
  · exact absurd h2 ha
  · exact h2

theorem fermat {p a : Nat} (hp : Pr p) (ha : ¬ p ∣ a) : a ^ (p - 1) % p = 1 := by
  have hp1 := hp.1
  have hmem : ∀ x, x ∈ List.range' 1 (p - 1) ↔ 1 ≤ x ∧ x < p := by
    intro x; rw [List.mem_range'_1]; omega
  have hnd : (List.range' 1 (p - 1)).Nodup := List.nodup_range' 
  have hndm : ∀ x, x ∈ List.range' 1 (p - 1) → ¬ p ∣ x := by
    intro x hx hd
    have := (hmem x).1 hx
    have := Nat.le_of_dvd (by omega) hd
    omega
  have inj : ∀ x ∈ List.range' 1 (p - 1), ∀ y ∈ List.range' 1 (p - 1), a * x % p = a * y % p → x = y := by
    have half : ∀ x y, 1 ≤ x → y < p → x ≤ y → a * x % p = a * y % p → x = y := by
      intro x y h1 h2 h3 h4
      have hd := dvd_of_mul_mod_eq hp ha h3 h4
      by_cases h0 : y - x = 0
      · omega
      · have := Nat.le_of_dvd (by omega) hd; omega
    intro x hx y hy e
    have hx' := (hmem x).1 hx
    have hy' := (hmem y).1 hy
    rcases Nat.le_total x y with h | h
    · exact half x y hx'.1 hy'.2 h e
    · exact (half y x hy'.1 hx'.2 h e.symm).symm
  have hperm : ((List.range' 1 (p - 1)).map fun x => a * x % p).Perm (List.range' 1 (p - 1)) := by
    apply perm_of_sub
    · exact nodup_map_of_inj _ hnd inj
    · intro z hz
      obtain ⟨x, hx, e⟩ := List.mem_map.1 hz
      rw [hmem]
      subst e
      have hlt := Nat.mod_lt (a * x) (show p > 0 by omega)
      refine ⟨?_, hlt⟩
      apply Nat.pos_of_ne_zero
      intro h0
      rcases pr_mul hp (Nat.dvd_of_mod_eq_zero h0) with h2 | h2
      · exact ha h2
      · exact hndm x hx h2
    · simp
  have h1 := lprod_map_mod p a (List.range' 1 (p - 1))
  rw [lprod_perm hperm, List.length_range'] at h1
  have hM := not_dvd_lprod hp _ hndm
  generalize lprod (List.range' 1 (p - 1)) = M at h1 hM
  have h2 : M * 1 % p = M * a ^ (p - 1) % p := by rw [Nat.mul_one, h1, Nat.mul_comm]
  have hpos : 1 ≤ a ^ (p - 1) := by
    apply Nat.one_le_iff_ne_zero.2
    intro h0
    have : a = 0 := by
      rcases Nat.eq_zero_or_pos a with h | h
      · exact h
      · have := Nat.pow_pos (n := p - 1) h; omega
    subst this
    exact ha (Nat.dvd_zero p)
  have h3 := dvd_of_mul_mod_eq hp hM hpos h2
  obtain ⟨c, hc⟩ := h3
  have h4 : a ^ (p - 1) = 1 + p * c := by omega
  rw [h4, Nat.add_mul_mod_self_left]
  exact Nat.mod_eq_of_lt hp1

theorem gcd_big : Nat.gcd 1000000271 (prodR 15 1) = 1 := by decide +kernel

theorem prime_P : Pr 1000000271 := pr_of_gcd _ 15 (by decide) (by decide) gcd_big

end Go.PlainNum
