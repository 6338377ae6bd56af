/- What SolveSystem and CountIndependent say of each other. -/
import Derived.Test.YtkpbaaigopheeaaDrawSys
namespace Go.Proofs.Ytkpbaaigopheeaa
open Go.RowKit Go.PlainNum

theorem tabM_wide {n W : Nat} {R : Nat → List Int} {zs : List Int} (hW : ∀ j, j < n → (R j).length = W) : Eqm n W (tabM R) (tabM (wide R zs)) := by
  intro i j hi hj
  have hl := hW i hi
  unfold tabM wide
  simp only [List.getD]
  rw [List.getElem?_append_left (by omega)]
theorem tabM_last {n W : Nat} {R : Nat → List Int} {zs : List Int} (hW : ∀ j, j < n → (R j).length = W) (i : Nat) (hi : i < n) : tabM (wide R zs) i W = zs.getD i 0 := by
  have hl := hW i hi
  unfold tabM wide
  simp only [List.getD]
  rw [List.getElem?_append_right (by omega), show W - (R i).length = 0 by omega]
  rfl
theorem allNum_of {l : List Int} (h : ∀ z ∈ l, IsNum z) : allNum l = true := by
  unfold allNum
  rw [List.all_eq_true]
  intro z hz
  exact decide_eq_true (h z hz)
theorem sysOk_of {n W : Nat} {R : Nat → List Int} (hn : 0 < n) (hn2 : n ≤ 40) (hW1 : 0 < W) (hW2 : W ≤ 40) (h : ∀ j, j < n → (R j).length = W ∧ ∀ z ∈ R j, IsNum z) : sysOk n R = true :=
  sysOk_yes hn hn2 (fun j hj => ⟨by rw [(h j hj).1, (h 0 hn).1], by rw [(h j hj).1]; exact hW1, by rw [(h j hj).1]; exact hW2, allNum_of (h j hj).2⟩)
theorem wide_ok {n W : Nat} {R : Nat → List Int} {zs : List Int} (hz : zs.length = n) (hzn : ∀ z ∈ zs, IsNum z) (h : ∀ j, j < n → (R j).length = W ∧ ∀ z ∈ R j, IsNum z) : ∀ j, j < n → (wide R zs j).length = W + 1 ∧ ∀ z ∈ wide R zs j, IsNum z := by
  intro j hj
  refine ⟨by rw [wide_len, (h j hj).1], fun z hm => ?_⟩
  unfold wide at hm
  rw [List.mem_append] at hm
  rcases hm with hm | hm
  · exact (h j hj).2 z hm
  · simp only [List.mem_singleton] at hm
    subst hm
    rw [show zs.getD j 0 = zs[j]'(by omega) by simp [List.getD, List.getElem?_eq_getElem (show j < zs.length by omega)]]
    exact hzn _ (List.getElem_mem _)

/-- what the law asks -/
structure Lawful (n W : Nat) (R : Nat → List Int) (zs X : List Int) (b : Bool) (c1 c2 : Int) : Prop where
  same : b = decide (c1 = c2)
  none : b = false → X = []
  len : b = true → X.length = W
  sum : b = true → ∀ i, i < n → res (dot (tabM R i) (fun k => X.getD k 0) W) = zs.getD i 0
  zeros : b = true → (nzs (fun k => X.getD k 0) W : Int) ≤ c2
  lo : 0 ≤ c2 ∧ c2 ≤ 100 ∧ 0 ≤ c1 ∧ c1 ≤ 100

theorem lawful {n W : Nat} {R : Nat → List Int} {zs : List Int} (hn : 0 < n) (hn2 : n ≤ 5) (hW1 : 0 < W) (hW2 : W ≤ 5) (hz : zs.length = n) (hzn : ∀ z ∈ zs, IsNum z) (h : ∀ j, j < n → (R j).length = W ∧ ∀ z ∈ R j, IsNum z) :
    Lawful n W R zs (solX n R zs) (solB n R zs) (ciOf n (wide R zs)) (ciOf n R) := by
  have hR := sysOk_of hn (by omega) hW1 (by omega) h
  have hV := sysOk_of hn (by omega) (Nat.succ_pos W) (by omega) (wide_ok hz hzn h)
  have hE : eqOk n R zs = true := eqOk_4 hR hz.symm (allNum_of hzn)
  have hWW : ∀ j, j < n → (R j).length = W := fun j hj => (h j hj).1
  have hW0 := hWW 0 hn
  obtain ⟨⟨pv, M'⟩, hg⟩ : ∃ s, gau n (W + 1) (tabM (wide R zs)) W = s := ⟨_, rfl⟩
  have hNm := nm_wide hE hW0
  have e2 : ciOf n R = (pv.length : Int) := by
    rw [ciOf_yes hR hW0, (gau_width (Nat.le_succ W) (tabM_wide hWW) W (Nat.le_refl _)).1, hg]
  have e1 := ciOf_yes hV (W := W + 1) (by rw [wide_len, hW0])
  have hlen : pv.length ≤ n := by have := gau_len n (W + 1) (tabM (wide R zs)) W; rw [hg] at this; exact this
  rcases gau_last hg with ⟨h1, h2⟩ | ⟨h1, a, h2, h3, h4⟩
  · rw [h1] at e1
    obtain ⟨s1, s2⟩ := solB_good hE hW0 hg (fun a ha hp => h2 a hp ha)
    have hx : ∀ k, k < W → (solX n R zs).getD k 0 = sx pv M' W pv.length k := fun k hk => by rw [s2]; simp [hk]
    refine ⟨by rw [s1, e1, e2]; simp, fun q => by rw [s1] at q; exact absurd q (by decide), fun _ => by rw [s2]; simp, fun _ i hi => ?_, fun _ => ?_, by omega⟩
    · have q := solved hNm hg h2 i hi
      rw [tabM_last hWW i hi] at q
      rw [← q]
      congr 1
      exact dot_congr W (fun j hj => tabM_wide hWW i j hi hj) (fun j hj => hx j hj)
    · have q := nzs_sx pv M' W pv.length
      have e : ∀ V, V ≤ W → nzs (fun k => (solX n R zs).getD k 0) V = nzs (sx pv M' W pv.length) V := by
        intro V
        induction V with
        | zero => intro _; rfl
        | succ V ih =>
          intro hV
          simp only [nzs]
          rw [ih (by omega)]
          simp only [hx V (by omega)]
      rw [e W (Nat.le_refl _), e2]
      omega
  · rw [h1] at e1
    have s1 := solB_bad hW0 hg a h3 h2 h4
    refine ⟨by rw [s1, e1, e2]; simp; omega, fun _ => solX_no s1, fun q => by rw [s1] at q; exact absurd q (by decide), fun q => by rw [s1] at q; exact absurd q (by decide), fun q => by rw [s1] at q; exact absurd q (by decide), by omega⟩
end Go.Proofs.Ytkpbaaigopheeaa
