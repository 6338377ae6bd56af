/- Plain: lists of levels. -/
namespace Go.PlainNum
/-- place j of a list of levels is as it should be -/
def okAt (zs : List Int) (j : Nat) : Prop := (j = 0 → zs.getD 0 0 = 0) ∧ (0 < j → 1 ≤ zs.getD j 0 ∧ zs.getD j 0 ≤ zs.getD (j - 1) 0 + 1)
instance (zs : List Int) (j : Nat) : Decidable (okAt zs j) := by unfold okAt; exact inferInstance
/-- a list of levels -/
def isLev (zs : List Int) : Bool := decide (1 ≤ zs.length ∧ zs.length ≤ 6 ∧ ∀ j, j < zs.length → okAt zs j)
theorem isLev_yes (zs : List Int) (h1 : 1 ≤ zs.length) (h2 : zs.length ≤ 6) (h3 : ∀ j, j < zs.length → okAt zs j) : isLev zs = true := decide_eq_true ⟨h1, h2, h3⟩
theorem isLev_len (zs : List Int) (h : ¬ (1 ≤ zs.length ∧ zs.length ≤ 6)) : isLev zs = false := decide_eq_false fun h' => h ⟨h'.1, h'.2.1⟩
theorem isLev_bad (zs : List Int) (j : Nat) (hj : j < zs.length) (h : ¬ okAt zs j) : isLev zs = false := decide_eq_false fun h' => h (h'.2.2 j hj)
theorem isLev_spec (zs : List Int) (h : isLev zs = true) : 1 ≤ zs.length ∧ zs.length ≤ 6 ∧ ∀ j, j < zs.length → okAt zs j := of_decide_eq_true h
attribute [irreducible] isLev
/-- while all places are as they should be a level is at most its place -/
theorem lev_le (zs : List Int) : ∀ k, (∀ j, j ≤ k → okAt zs j) → 0 ≤ zs.getD k 0 ∧ zs.getD k 0 ≤ k := by
  intro k
  induction k with
  | zero => intro h; have := (h 0 (by omega)).1 rfl; omega
  | succ k ih =>
    intro h
    have h1 := ih (fun j hj => h j (by omega))
    have h2 := (h (k + 1) (by omega)).2 (by omega)
    rw [show k + 1 - 1 = k by omega] at h2
    omega
end Go.PlainNum
