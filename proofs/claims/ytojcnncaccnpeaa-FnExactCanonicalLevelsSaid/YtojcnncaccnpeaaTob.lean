/- Tables of integers of the call's own, their rows of their own lengths. -/
import Derived.Test.YtojcnncaccnpeaaOwn
import Derived.Test.YtojcnncaccnpeaaApp
import Derived.Test.YtojcnncaccnpeaaPlainForm
import Derived.Deep.AppendLies
namespace Go.Proofs.Ytojcnncaccnpeaa
open Go.RowKit Go.PlainNum

theorem infoRow : (Try.prog.info? 22).map (fun i => (i.zero, i.size, i.bytes)) = some (some (.slice none 0 0), 1, 24) := by kernel_rfl
theorem own_lower {w : World} {b b' n : Nat} {e : TypeId} {v : Value} {xs : List Value} (h : w.ownsRow b e 1 v n xs) (hb : b' ≤ b) : w.ownsRow b' e 1 v n xs := by
  refine ⟨h.1, ?_⟩
  rcases h.2 with h2 | ⟨g, cap, cur, hv, hg, r⟩
  · exact Or.inl h2
  · exact Or.inr ⟨g, cap, cur, hv, by omega, r⟩
theorem row_lt {w : World} {base W c b : Nat} {xs : List Value} (h : w.ownsRow base 3 1 (.slice (some ⟨b, 0, none⟩) W c) W xs) : base ≤ b ∧ b < w.heap.size := h.lt b rfl
theorem asz (w : World) (o : Obj) : (w.alloc o).heap.size = w.heap.size + 1 := by simp
theorem dsz (w : World) : w.drew.heap.size = w.heap.size := rfl
/-- n slices of integers read as the rows Z, below block B -/
def RdT (w : World) (B : Nat) (A : Option Addr) (n : Nat) (Z : Nat → List Int) : Prop :=
  0 < n → ∃ b off, A = some ⟨b, off, none⟩ ∧ b < B ∧ ∀ j, j < n → ∃ X c, w.cell? ⟨b, off + j, none⟩ = some (.slice X (Z j).length c) ∧ Rd w B X (Z j).length (Z j)
theorem RdT.below {w w' : World} {B C n : Nat} {A : Option Addr} {Z : Nat → List Int} (h : RdT w B A n Z) (hb : Below C w w') (hC : B ≤ C) : RdT w' B A n Z := by
  intro hn
  obtain ⟨b, off, e, hB, hc⟩ := h hn
  refine ⟨b, off, e, hB, fun j hj => ?_⟩
  obtain ⟨X, c, h1, h2⟩ := hc j hj
  exact ⟨X, c, (hb.cell (p := ⟨b, off + j, none⟩) (show b < C by omega)).trans h1, h2.below hb hC⟩

/-- headers of n rows of their own lengths -/
def hdv (n : Nat) (bs ks : Nat → Nat) (R : Nat → List Int) : List Value := (List.range n).map fun j => Value.slice (some ⟨bs j, 0, none⟩) (R j).length (ks j)
theorem hdv_len (n : Nat) (bs ks : Nat → Nat) (R : Nat → List Int) : (hdv n bs ks R).length = n := by simp [hdv]
theorem hdv_get (n : Nat) (bs ks : Nat → Nat) (R : Nat → List Int) (j : Nat) (hj : j < n) : (hdv n bs ks R)[j]? = some (Value.slice (some ⟨bs j, 0, none⟩) (R j).length (ks j)) := by simp [hdv, hj]
theorem hdv_set (n : Nat) (bs ks : Nat → Nat) (R : Nat → List Int) (i b c : Nat) (r : List Int) : (hdv n bs ks R).set i (Value.slice (some ⟨b, 0, none⟩) r.length c) = hdv n (stf bs i b) (stf ks i c) (stf R i r) := by
  apply List.ext_getElem?
  intro j
  by_cases hj : j < n
  · by_cases hk : j = i
    · subst hk
      rw [List.getElem?_set_self (by simp [hdv, hj]), hdv_get _ _ _ _ _ hj, stf_at, stf_at, stf_at]
    · rw [List.getElem?_set_ne (by omega), hdv_get _ _ _ _ _ hj, hdv_get _ _ _ _ _ hj]
      have e1 : stf bs i b j = bs j := if_neg hk
      have e2 : stf ks i c j = ks j := if_neg hk
      have e3 : stf R i r j = R j := if_neg hk
      rw [e1, e2, e3]
  · rw [List.getElem?_eq_none (by simp [hdv]; omega), List.getElem?_eq_none (by simp [hdv]; omega)]

/-- a table of the call's own whose rows have lengths of their own -/
structure Tob (w : World) (base : Nat) (v : Value) (n : Nat) (bs ks : Nat → Nat) (R : Nat → List Int) : Prop where
  out : w.ownsRow base 22 1 v n (hdv n bs ks R)
  row : ∀ i, i < n → w.ownsRow base 3 1 (.slice (some ⟨bs i, 0, none⟩) (R i).length (ks i)) (R i).length ((R i).map (Value.int .i64))
  apart : ∀ i i', i < n → i' < n → i ≠ i' → bs i ≠ bs i'

theorem Tob.congr {w : World} {base n : Nat} {v : Value} {bs ks : Nat → Nat} {R R' : Nat → List Int} (h : Tob w base v n bs ks R) (e : ∀ i, i < n → R i = R' i) : Tob w base v n bs ks R' := by
  refine ⟨?_, fun i hi => by rw [← e i hi]; exact h.row i hi, h.apart⟩
  have : hdv n bs ks R' = hdv n bs ks R := by
    unfold hdv
    apply List.map_congr_left
    intro j hj
    rw [e j (List.mem_range.1 hj)]
  rw [this]; exact h.out
theorem Tob.below {w w' : World} {base n : Nat} {v : Value} {bs ks : Nat → Nat} {R : Nat → List Int} (h : Tob w base v n bs ks R) (hb : Below w.heap.size w w') : Tob w' base v n bs ks R :=
  ⟨own_below h.out hb, fun i hi => own_below (h.row i hi) hb, h.apart⟩
/-- row i is appended to, and its header laid anew -/
theorem Tob.app {w w2 : World} {base n g cap i g2 c2 : Nat} {bs ks : Nat → Nat} {R : Nat → List Int} {r : List Int} (h : Tob w base (.slice (some ⟨g, 0, none⟩) n cap) n bs ks R) (hi : i < n)
    (O2 : w2.ownsRow base 3 1 (.slice (some ⟨g2, 0, none⟩) r.length c2) r.length (r.map (Value.int .i64))) (G2 : w.grownBy w2 (Value.slice (some ⟨bs i, 0, none⟩) (R i).length (ks i)).ownBlock) (L2 : (Value.slice (some ⟨bs i, 0, none⟩) (R i).length (ks i)).ownBlock = some g2 ∨ g2 = w.heap.size) :
    Tob (w2.setCell ⟨g, i, none⟩ (.slice (some ⟨g2, 0, none⟩) r.length c2)) base (.slice (some ⟨g, 0, none⟩) n cap) n (stf bs i g2) (stf ks i c2) (stf R i r) := by
  have ow : w2.ownsRow base 22 1 (.slice (some ⟨g, 0, none⟩) n cap) n (hdv n bs ks R) := own_grown h.out G2 (fun q hq => own_tags h.out (h.row i hi) (by decide) q hq)
  have S := ow.stored i (.slice (some ⟨g2, 0, none⟩) r.length c2)
  rw [hdv_set] at S
  have keep : ∀ {b c : Nat} {r : List Int} {W : Nat}, w2.ownsRow base 3 1 (.slice (some ⟨b, 0, none⟩) W c) W (r.map (Value.int .i64)) → World.ownsRow (w2.setCell ⟨g, i, none⟩ _) base 3 1 (.slice (some ⟨b, 0, none⟩) W c) W (r.map (Value.int .i64)) := fun q =>
    own_grown q S.2 (fun g' hg => own_tags q ow (by decide) g' hg)
  have lt : ∀ j, j < n → bs j < w.heap.size := fun j hj => (row_lt (h.row j hj)).2
  have ne : ∀ j, j < n → j ≠ i → bs j ≠ g2 := fun j hj hji => by
    rcases L2 with L2 | L2
    · simp only [Value.ownBlock, Option.some.injEq] at L2
      rw [← L2]
      exact h.apart j i hj hi hji
    · have := lt j hj; omega
  refine ⟨S.1, fun j hj => ?_, fun j j' hj hj' hne => ?_⟩
  · by_cases hji : j = i
    · subst hji; rw [stf_at, stf_at, stf_at]; exact keep O2
    · have e1 : stf bs i g2 j = bs j := if_neg hji
      have e2 : stf ks i c2 j = ks j := if_neg hji
      have e3 : stf R i r j = R j := if_neg hji
      rw [e1, e2, e3]
      exact keep (own_grown (h.row j hj) G2 (fun q hq => by
        simp only [Value.ownBlock, Option.some.injEq] at hq ⊢
        subst hq
        exact fun e => h.apart j i hj hi hji (Option.some.inj e).symm))
  · by_cases hji : j = i
    · subst hji
      have e1 : stf bs j g2 j' = bs j' := if_neg (fun e => hne e.symm)
      rw [stf_at, e1]
      exact fun e => ne j' hj' (fun q => hne q.symm) e.symm
    · have e1 : stf bs i g2 j = bs j := if_neg hji
      rw [e1]
      by_cases hji' : j' = i
      · subst hji'; rw [stf_at]; exact ne j hj hji
      · have e1 : stf bs i g2 j' = bs j' := if_neg hji'
        rw [e1]; exact h.apart j j' hj hj' hne
/-- a header laid anew for a row that stands -/
theorem Tob.put {w2 : World} {base n g cap i g2 c2 : Nat} {bs ks : Nat → Nat} {R : Nat → List Int} {r : List Int} (h : Tob w2 base (.slice (some ⟨g, 0, none⟩) n cap) n bs ks R) (hi : i < n)
    (O2 : w2.ownsRow base 3 1 (.slice (some ⟨g2, 0, none⟩) r.length c2) r.length (r.map (Value.int .i64))) (ne : ∀ j, j < n → bs j ≠ g2) :
    Tob (w2.setCell ⟨g, i, none⟩ (.slice (some ⟨g2, 0, none⟩) r.length c2)) base (.slice (some ⟨g, 0, none⟩) n cap) n (stf bs i g2) (stf ks i c2) (stf R i r) := by
  have S := h.out.stored i (.slice (some ⟨g2, 0, none⟩) r.length c2)
  rw [hdv_set] at S
  have keep : ∀ {b c : Nat} {r : List Int} {W : Nat}, w2.ownsRow base 3 1 (.slice (some ⟨b, 0, none⟩) W c) W (r.map (Value.int .i64)) → World.ownsRow (w2.setCell ⟨g, i, none⟩ _) base 3 1 (.slice (some ⟨b, 0, none⟩) W c) W (r.map (Value.int .i64)) := fun q =>
    own_grown q S.2 (fun g' hg => own_tags q h.out (by decide) g' hg)
  refine ⟨S.1, fun j hj => ?_, fun j j' hj hj' hne => ?_⟩
  · by_cases hji : j = i
    · subst hji; rw [stf_at, stf_at, stf_at]; exact keep O2
    · have e1 : stf bs i g2 j = bs j := if_neg hji
      have e2 : stf ks i c2 j = ks j := if_neg hji
      have e3 : stf R i r j = R j := if_neg hji
      rw [e1, e2, e3]
      exact keep (h.row j hj)
  · by_cases hji : j = i
    · subst hji
      have e1 : stf bs j g2 j' = bs j' := if_neg (fun e => hne e.symm)
      rw [stf_at, e1]
      exact fun e => ne j' hj' e.symm
    · have e1 : stf bs i g2 j = bs j := if_neg hji
      rw [e1]
      by_cases hji' : j' = i
      · subst hji'; rw [stf_at]; exact ne j hj
      · have e1 : stf bs i g2 j' = bs j' := if_neg hji'
        rw [e1]; exact h.apart j j' hj hj' hne
theorem Tob.rdt {w : World} {base n g cap : Nat} {bs ks : Nat → Nat} {R : Nat → List Int} (h : Tob w base (.slice (some ⟨g, 0, none⟩) n cap) n bs ks R) : RdT w w.heap.size (some ⟨g, 0, none⟩) n R := by
  intro hn
  have hg := h.out.lt g rfl
  refine ⟨g, 0, rfl, hg.2, fun j hj => ⟨some ⟨bs j, 0, none⟩, ks j, ?_, ?_⟩⟩
  · rw [Nat.zero_add, h.out.cellAt j (by omega), hdv_get _ _ _ _ _ hj]
  · exact own_rd (h.row j hj)
/-- a row appended -/
theorem Tob.push {w w' : World} {base n : Nat} {v v' : Value} {bs ks : Nat → Nat} {R : Nat → List Int} (h : Tob w base v n bs ks R) {b c : Nat} {r : List Int}
    (O : w'.ownsRow base 22 1 v' (n + 1) (hdv n bs ks R ++ [Value.slice (some ⟨b, 0, none⟩) r.length c])) (G : w.grownBy w' v.ownBlock)
    (hr : w.ownsRow base 3 1 (.slice (some ⟨b, 0, none⟩) r.length c) r.length (r.map (Value.int .i64))) (hb : ∀ i, i < n → bs i ≠ b) :
    Tob w' base v' (n + 1) (stf bs n b) (stf ks n c) (stf R n r) := by
  have keep : ∀ {b c L : Nat} {r : List Int}, w.ownsRow base 3 1 (.slice (some ⟨b, 0, none⟩) L c) L (r.map (Value.int .i64)) → w'.ownsRow base 3 1 (.slice (some ⟨b, 0, none⟩) L c) L (r.map (Value.int .i64)) := fun q =>
    own_grown q G (fun g hg => own_tags q h.out (by decide) g hg)
  refine ⟨?_, fun i hi => ?_, fun i i' hi hi' hne => ?_⟩
  · have e : hdv n bs ks R ++ [Value.slice (some ⟨b, 0, none⟩) r.length c] = hdv (n + 1) (stf bs n b) (stf ks n c) (stf R n r) := by
      unfold hdv
      rw [List.range_succ, List.map_append]
      congr 1
      · apply List.map_congr_left
        intro j hj
        have := List.mem_range.1 hj
        rw [stf_ne _ _ (show j ≠ n by omega), stf_ne _ _ (show j ≠ n by omega), stf_ne _ _ (show j ≠ n by omega)]
      · simp [stf_at]
    rw [← e]; exact O
  · by_cases hik : i = n
    · subst hik; rw [stf_at, stf_at, stf_at]; exact keep hr
    · rw [stf_ne _ _ hik, stf_ne _ _ hik, stf_ne _ _ hik]; exact keep (h.row i (by omega))
  · by_cases hik : i = n
    · subst hik
      rw [stf_at, stf_ne _ _ (fun e => hne e.symm)]
      exact fun e => hb i' (by omega) e.symm
    · rw [stf_ne _ _ hik]
      by_cases hik' : i' = n
      · subst hik'; rw [stf_at]; exact hb i (by omega)
      · rw [stf_ne _ _ hik']; exact h.apart i i' (by omega) (by omega) hne
theorem tob_zero (w : World) {bs ks : Nat → Nat} {R : Nat → List Int} : Tob (w.alloc (.cells #[] 22)) w.heap.size (.slice (some ⟨w.heap.size, 0, none⟩) 0 0) 0 bs ks R :=
  ⟨World.ownsRow_lit w #[] 0 (Nat.le_refl _) (by unfold maxLen; omega) rfl, fun i hi => absurd hi (by omega), fun i _ hi => absurd hi (by omega)⟩
/-- two headers change places -/
theorem Tob.swap {w : World} {base n g cap : Nat} {bs ks : Nat → Nat} {R : Nat → List Int} (h : Tob w base (.slice (some ⟨g, 0, none⟩) n cap) n bs ks R) (a b : Nat) (ha : a < n) (hb : b < n) (hab : a ≠ b) :
    Tob ((w.setCell ⟨g, a, none⟩ (.slice (some ⟨bs b, 0, none⟩) (R b).length (ks b))).setCell ⟨g, b, none⟩ (.slice (some ⟨bs a, 0, none⟩) (R a).length (ks a))) base (.slice (some ⟨g, 0, none⟩) n cap) n
      (stf (stf bs a (bs b)) b (bs a)) (stf (stf ks a (ks b)) b (ks a)) (stf (stf R a (R b)) b (R a)) := by
  have S1 := h.out.stored a (.slice (some ⟨bs b, 0, none⟩) (R b).length (ks b))
  rw [hdv_set] at S1
  have S2 := S1.1.stored b (.slice (some ⟨bs a, 0, none⟩) (R a).length (ks a))
  rw [hdv_set] at S2
  have keep : ∀ {b c L : Nat} {r : List Int}, w.ownsRow base 3 1 (.slice (some ⟨b, 0, none⟩) L c) L (r.map (Value.int .i64)) → World.ownsRow ((w.setCell ⟨g, a, none⟩ _).setCell ⟨g, _, none⟩ _) base 3 1 (.slice (some ⟨b, 0, none⟩) L c) L (r.map (Value.int .i64)) := fun q =>
    own_grown (own_grown q S1.2 (fun g' hg => own_tags q h.out (by decide) g' hg)) S2.2 (fun g' hg => own_tags (own_grown q S1.2 (fun g' hg => own_tags q h.out (by decide) g' hg)) S1.1 (by decide) g' hg)
  refine ⟨S2.1, fun j hj => ?_, fun j j' hj hj' hne => ?_⟩
  · by_cases hjb : j = b
    · subst hjb; rw [stf_at, stf_at, stf_at]; exact keep (h.row a ha)
    · rw [stf_ne _ _ hjb, stf_ne _ _ hjb, stf_ne _ _ hjb]
      by_cases hja : j = a
      · subst hja; rw [stf_at, stf_at, stf_at]; exact keep (h.row b hb)
      · rw [stf_ne _ _ hja, stf_ne _ _ hja, stf_ne _ _ hja]; exact keep (h.row j hj)
  · have e : ∀ j, stf (stf bs a (bs b)) b (bs a) j = bs (if j = b then a else if j = a then b else j) := by
      intro j
      unfold stf
      split
      · rfl
      · split <;> rfl
    rw [e, e]
    apply h.apart
    · split
      · exact ha
      · split
        · exact hb
        · exact hj
    · split
      · exact ha
      · split
        · exact hb
        · exact hj'
    · intro q
      apply hne
      split at q <;> split at q <;> (try split at q) <;> (try split at q) <;> omega
end Go.Proofs.Ytojcnncaccnpeaa
