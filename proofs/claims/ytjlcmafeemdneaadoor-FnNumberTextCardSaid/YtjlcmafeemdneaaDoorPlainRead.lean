/- How a number is read from its text: by the program and by the reference alike. No program in sight. -/
import Derived.Test.YtjlcmafeemdneaaDoorPlainParse
namespace Go.PlainNum

theorem index_spec (c : UInt8) : ∀ (l : List UInt8), (Lib.index l [c] = -1 ∧ c ∉ l) ∨ ∃ a b, c ∉ a ∧ l = a ++ c :: b ∧ Lib.index l [c] = (a.length : Int) := by
  intro l
  induction l with
  | nil => exact Or.inl ⟨rfl, by simp⟩
  | cons x r ih =>
    by_cases hx : x = c
    · subst hx
      refine Or.inr ⟨[], r, by simp, rfl, ?_⟩
      simp [Lib.index, List.isPrefixOf]
    · have hp : [c].isPrefixOf (x :: r) = false := by simp [List.isPrefixOf]; exact fun e => hx e.symm
      rcases ih with ⟨h1, h2⟩ | ⟨a, b, h1, h2, h3⟩
      · refine Or.inl ⟨?_, ?_⟩
        · rw [Lib.index, hp, h1]; rfl
        · intro hc
          rcases List.mem_cons.1 hc with e | e
          · exact hx e.symm
          · exact h2 e
      · refine Or.inr ⟨x :: a, b, ?_, ?_, ?_⟩
        · intro hc
          rcases List.mem_cons.1 hc with e | e
          · exact hx e.symm
          · exact h1 e
        · rw [h2]; rfl
        · rw [Lib.index, hp, h3, if_neg (by simp), if_neg (by simp)]; rfl
theorem cut_spec (c : UInt8) (l : List UInt8) : (c ∉ l ∧ Lib.cut l [c] = (l, [], false)) ∨ ∃ a b, c ∉ a ∧ l = a ++ c :: b ∧ Lib.cut l [c] = (a, b, true) := by
  rcases index_spec c l with ⟨h1, h2⟩ | ⟨a, b, h1, h2, h3⟩
  · refine Or.inl ⟨h2, ?_⟩
    unfold Lib.cut; rw [h1, if_neg (by omega)]
  · refine Or.inr ⟨a, b, h1, h2, ?_⟩
    unfold Lib.cut; rw [h3, if_pos (by omega), h2]
    simp

/-- the fraction of two integers -/
def fr (a b : Int) : Int := res (a * pw b 1000000269)
/-- what is answered when a number has been found -/
def fin (l : List UInt8) (n : Int) : Int × Bool := if fmtL n = l then (n, true) else (0, false)
theorem fin_yes {l : List UInt8} {n : Int} (h : fmtL n = l) : fin l n = (n, true) := if_pos h
theorem fin_no {l : List UInt8} {n : Int} (h : ¬ fmtL n = l) : fin l n = (0, false) := if_neg h
/-- the text without its sign -/
def tl (l : List UInt8) : List UInt8 := if l[0]? = some 45 then l.drop 1 else l
/-- the parts of the reference -/
def pA (l : List UInt8) : Int := digs ((sp 47 (tl l)).getD 0 [])
def pB (l : List UInt8) : Int := if 1 < (sp 47 (tl l)).length then digs ((sp 47 (tl l)).getD 1 []) else 1
/-- what the reference answers -/
def psr (l : List UInt8) : Int × Bool :=
  if l = [] then (0, false) else if l[0]? = some 35 then fin l (digs (l.drop 1))
  else if pA l < 0 ∨ pB l < 0 ∨ 2 < (sp 47 (tl l)).length then (0, false)
  else fin l (fr ((if l[0]? = some 45 then -1 else 1) * pA l) (pB l))
/-- the parts of the program -/
def qA (l : List UInt8) : Int := rdd (Lib.cut (tl l) [47]).1
def qB (l : List UInt8) : Int := if (Lib.cut (tl l) [47]).2.2 = true then rdd (Lib.cut (tl l) [47]).2.1 else 1
/-- what the program answers -/
def pir (l : List UInt8) : Int × Bool :=
  if l[0]? = some 35 then fin l (rdd (l.drop 1))
  else if qA l < 0 ∨ qB l < 1 then (0, false)
  else fin l (if l[0]? = some 45 then res (-(fr (qA l) (qB l))) else fr (qA l) (qB l))

theorem fr_neg (a b : Int) : res (-(fr a b)) = fr (-1 * a) b := by
  have h := res_sub 0 (a * pw b 1000000269)
  have h0 : res 0 = 0 := by decide
  rw [h0, Int.zero_sub, Int.zero_sub] at h
  unfold fr
  rw [Int.neg_mul, Int.one_mul, Int.neg_mul, ← h]
  rfl

theorem shape_hash {l : List UInt8} (hs : Shape l) (h : l[0]? = some 35) : ∃ m : Nat, l.drop 1 = dg m := by
  rcases hs with rfl | ⟨m, rfl⟩ | ⟨sg, a, b, hsg, _, _, rfl⟩
  · simp at h
  · exact ⟨m, rfl⟩
  · exfalso
    rcases hsg with rfl | rfl
    · rw [List.nil_append, List.getElem?_append_left (dg_pos a)] at h
      obtain ⟨h1, h2⟩ := List.getElem?_eq_some_iff.1 h
      have := dg_dig a a (Nat.le_refl _) _ (List.getElem_mem h1)
      rw [h2] at this
      have e : (35 : UInt8).toNat = 35 := rfl
      omega
    · simp at h
theorem shape_tl {l : List UInt8} (hs : Shape l) (h0 : l ≠ []) (h : l[0]? ≠ some 35) : ∃ a b : Nat, 1 ≤ b ∧ b ≤ 9999 ∧ tl l = dg a ++ if b = 1 then [] else 47 :: dg b := by
  rcases hs with rfl | ⟨m, rfl⟩ | ⟨sg, a, b, hsg, hb1, hb2, rfl⟩
  · exact absurd rfl h0
  · exact absurd rfl h
  · refine ⟨a, b, hb1, hb2, ?_⟩
    rcases hsg with rfl | rfl
    · rw [List.nil_append]
      unfold tl
      rw [if_neg]
      rw [List.getElem?_append_left (dg_pos a)]
      intro h
      obtain ⟨h1, h2⟩ := List.getElem?_eq_some_iff.1 h
      have := dg_dig a a (Nat.le_refl _) _ (List.getElem_mem h1)
      rw [h2] at this
      have e : (45 : UInt8).toNat = 45 := rfl
      omega
    · unfold tl
      rw [if_pos (by simp)]
      simp
theorem slash_dg (m : Nat) : (47 : UInt8) ∉ dg m := fun h => by
  have := dg_dig m m (Nat.le_refl _) _ h
  have e : (47 : UInt8).toNat = 47 := rfl
  omega
theorem slash_rdd {l : List UInt8} (h : 0 ≤ rdd l) : (47 : UInt8) ∉ l := fun hm => by
  rcases rdd_or l with h1 | ⟨h1, _⟩
  · have := digs_dig (by rw [← h1]; exact h) _ hm
    have e : (47 : UInt8).toNat = 47 := rfl
    omega
  · omega
theorem sp_two {l : List UInt8} (h : (47 : UInt8) ∈ l) : 2 ≤ (sp 47 l).length := by
  rcases cut_spec 47 l with ⟨h1, _⟩ | ⟨a, b, h1, h2, _⟩
  · exact absurd h h1
  · rw [h2, sp_cut 47 a b h1]
    have := List.length_pos_iff.2 (sp_ne 47 b)
    simp; omega

theorem psr_pir (l : List UInt8) : psr l = pir l := by
  unfold psr pir
  by_cases h0 : l = []
  · subst h0
    have e : tl [] = [] := rfl
    have e2 : qA [] = -1 := by unfold qA; rw [e]; exact rdd_no (Or.inl rfl)
    rw [if_pos rfl, if_neg (by simp), if_pos (by omega)]
  · rw [if_neg h0]
    by_cases h35 : l[0]? = some 35
    · rw [if_pos h35, if_pos h35]
      rcases rdd_or (l.drop 1) with h | ⟨h, _⟩
      · rw [h]
      · by_cases hf : fmtL (digs (l.drop 1)) = l
        · obtain ⟨m, hm⟩ := shape_hash (hf ▸ fmtL_shape _) h35
          rw [hm, rdd_dg]
        · rw [fin_no hf, h, fin_no]
          rw [fmtL_no _ (by omega)]
          exact fun e => h0 e.symm
    · rw [if_neg h35, if_neg h35]
      have hsh : ∀ n, fmtL n = l → ∃ a b : Nat, 1 ≤ b ∧ b ≤ 9999 ∧ tl l = dg a ++ if b = 1 then [] else 47 :: dg b := fun n hn => shape_tl (hn ▸ fmtL_shape n) h0 h35
      rcases cut_spec 47 (tl l) with ⟨h1, h2⟩ | ⟨x, y, h1, h2, h3⟩
      · have ea : pA l = digs (tl l) := by unfold pA; rw [sp_whole _ _ h1]; rfl
        have eb : pB l = 1 := by unfold pB; rw [sp_whole _ _ h1]; rfl
        have el : (sp 47 (tl l)).length = 1 := by rw [sp_whole _ _ h1]; rfl
        have fa : qA l = rdd (tl l) := by unfold qA; rw [h2]
        have fb : qB l = 1 := by unfold qB; rw [h2]; rfl
        rw [ea, eb, el, fa, fb]
        rcases rdd_or (tl l) with h | ⟨h, _⟩
        · rw [h]
          by_cases hn : digs (tl l) < 0
          · rw [if_pos (Or.inl hn), if_pos (Or.inl hn)]
          · rw [if_neg (c := digs (tl l) < 0 ∨ (1 : Int) < 0 ∨ 2 < 1) (by omega), if_neg (c := digs (tl l) < 0 ∨ (1 : Int) < 1) (by omega), fr_neg]
            by_cases h45 : l[0]? = some 45
            · rw [if_pos h45, if_pos h45]
            · rw [if_neg h45, if_neg h45, Int.one_mul]
        · rw [h, if_pos (c := (-1 : Int) < 0 ∨ (1 : Int) < 1) (by omega)]
          by_cases hn : digs (tl l) < 0
          · rw [if_pos (Or.inl hn)]
          · rw [if_neg (by omega)]
            apply fin_no
            intro hf
            obtain ⟨a, b, hb1, _, ht⟩ := hsh _ hf
            by_cases hb : b = 1
            · rw [if_pos hb, List.append_nil] at ht
              rw [ht, rdd_dg, ← ht] at h
              omega
            · rw [if_neg hb] at ht
              exact h1 (by rw [ht]; simp)
      · have fa : qA l = rdd x := by unfold qA; rw [h3]
        have fb : qB l = rdd y := by unfold qB; rw [h3]; rfl
        have es : sp 47 (tl l) = x :: sp 47 y := by rw [h2, sp_cut 47 x y h1]
        have ea : pA l = digs x := by unfold pA; rw [es]; rfl
        by_cases hy : (47 : UInt8) ∈ y
        · have h4 := sp_two hy
          have hb : rdd y < 0 := by
            rcases Int.lt_or_le (rdd y) 0 with h | h
            · exact h
            · exact absurd hy (slash_rdd h)
          rw [if_pos (Or.inr (Or.inr (by rw [es]; simp; omega))), if_pos (Or.inr (by omega))]
        · have es2 : sp 47 (tl l) = [x, y] := by rw [es, sp_whole _ _ hy]
          have eb : pB l = digs y := by unfold pB; rw [es2]; rfl
          have el : (sp 47 (tl l)).length = 2 := by rw [es2]; rfl
          rw [ea, eb, el, fa, fb]
          have key : ∀ n, fmtL n = l → rdd x = digs x ∧ rdd y = digs y ∧ 1 ≤ digs y := fun n hf => by
            obtain ⟨a, b, hb1, hb2, ht⟩ := hsh n hf
            by_cases hb : b = 1
            · rw [if_pos hb, List.append_nil] at ht
              exact absurd (show (47 : UInt8) ∈ tl l by rw [h2]; simp) (by rw [ht]; exact slash_dg a)
            · rw [if_neg hb] at ht
              have e3 : sp 47 (tl l) = [dg a, dg b] := by rw [ht, sp_cut 47 _ _ (slash_dg a), sp_whole _ _ (slash_dg b)]
              rw [es2] at e3
              simp only [List.cons.injEq, and_true] at e3
              obtain ⟨rfl, rfl⟩ := e3
              exact ⟨rdd_dg a, rdd_dg b, by rw [digs_dg b (by omega)]; omega⟩
          by_cases hc : digs x < 0 ∨ digs y < 0
          · rw [if_pos (by omega)]
            rw [if_pos]
            rcases rdd_or x with hx | ⟨hx, _⟩ <;> rcases rdd_or y with hy' | ⟨hy', _⟩ <;> omega
          · rw [if_neg (by omega)]
            by_cases hq : rdd x < 0 ∨ rdd y < 1
            · rw [if_pos hq]
              apply fin_no
              intro hf
              obtain ⟨k1, k2, k3⟩ := key _ hf
              omega
            · rw [if_neg hq]
              have k1 : rdd x = digs x := by rcases rdd_or x with hx | ⟨hx, _⟩ <;> omega
              have k2 : rdd y = digs y := by rcases rdd_or y with hy' | ⟨hy', _⟩ <;> omega
              rw [k1, k2, fr_neg]
              by_cases h45 : l[0]? = some 45
              · rw [if_pos h45, if_pos h45]
              · rw [if_neg h45, if_neg h45, Int.one_mul]

/-! ### the cases of the reference -/
theorem dgo_hi : ∀ (l : List UInt8) (k : Nat) (n : Int), 0 ≤ n → n < 10 ^ k → l.length + k ≤ 10 → dgo l n < 10000000000 := by
  intro l
  induction l with
  | nil =>
    intro k n h0 h1 h2
    rw [dgo_nil]
    rcases (show k ≤ 9 ∨ k = 10 by simp at h2; omega) with h | rfl
    · have := pow_le k h; omega
    · exact h1
  | cons c l ih =>
    intro k n h0 h1 h2
    by_cases hc : 48 ≤ c.toNat ∧ c.toNat ≤ 57
    · rw [dgo_cons c _ n hc]
      exact ih (k + 1) _ (by omega) (by rw [Int.pow_succ]; omega) (by simp at h2; omega)
    · rw [dgo_cons_bad c _ n (by omega)]; omega
theorem digs_hi (l : List UInt8) : digs l < 10000000000 := by
  by_cases h : l.length = 0 ∨ 10 < l.length
  · rw [digs_no h]; omega
  · rw [digs_yes (by omega) (by omega)]
    exact dgo_hi l 0 0 (by omega) (by omega) (by omega)
theorem rdd_hi (l : List UInt8) : rdd l < 10000000000 := by
  rcases rdd_or l with h | ⟨h, _⟩
  · rw [h]; exact digs_hi l
  · omega
theorem digs_lo (l : List UInt8) : -1 ≤ digs l := by
  by_cases h : 0 ≤ digs l
  · omega
  · by_cases h1 : l.length = 0 ∨ 10 < l.length
    · rw [digs_no h1]; omega
    · rw [digs_yes (by omega) (by omega)]
      exact dgo_lo l 0 (by omega)
theorem psr_nil : psr [] = (0, false) := if_pos rfl
theorem psr_hash {l : List UInt8} (h : l[0]? = some 35) : psr l = fin l (digs (l.drop 1)) := by
  unfold psr
  rw [if_neg (by intro e; rw [e] at h; simp at h), if_pos h]
theorem psr_bad {l : List UInt8} (h0 : l ≠ []) (h : l[0]? ≠ some 35) (hb : pA l < 0 ∨ pB l < 0 ∨ 2 < (sp 47 (tl l)).length) : psr l = (0, false) := by
  unfold psr
  rw [if_neg h0, if_neg h, if_pos hb]
theorem psr_good {l : List UInt8} (h0 : l ≠ []) (h : l[0]? ≠ some 35) (ha : 0 ≤ pA l) (hb : 0 ≤ pB l) (hc : (sp 47 (tl l)).length ≤ 2) (sg : Int) (hs : (if l[0]? = some 45 then (-1 : Int) else 1) = sg) : psr l = fin l (fr (sg * pA l) (pB l)) := by
  unfold psr
  rw [if_neg h0, if_neg h, if_neg (by omega), hs]
theorem pir_hash {l : List UInt8} (h : l[0]? = some 35) : pir l = fin l (rdd (l.drop 1)) := if_pos h
theorem pir_bad {l : List UInt8} (h : l[0]? ≠ some 35) (hb : qA l < 0 ∨ qB l < 1) : pir l = (0, false) := by
  unfold pir
  rw [if_neg h, if_pos hb]
theorem pir_pos {l : List UInt8} (h : l[0]? ≠ some 35) (ha : 0 ≤ qA l) (hb : 1 ≤ qB l) (hs : l[0]? ≠ some 45) : pir l = fin l (fr (qA l) (qB l)) := by
  unfold pir
  rw [if_neg h, if_neg (by omega), if_neg hs]
theorem pir_neg {l : List UInt8} (h : l[0]? ≠ some 35) (ha : 0 ≤ qA l) (hb : 1 ≤ qB l) (hs : l[0]? = some 45) : pir l = fin l (res (-(fr (qA l) (qB l)))) := by
  unfold pir
  rw [if_neg h, if_neg (by omega), if_pos hs]
theorem fr_lo (a b : Int) : 0 ≤ fr a b := res_lo _
theorem fr_def (a b : Int) : fr a b = res (a * pw b 1000000269) := rfl
attribute [irreducible] fr fin psr pir pA pB qA qB
end Go.PlainNum
