/- A row laid into a table by a copy of the headers behind it. -/
import Derived.Test.YtojcnncaccnpeaaParts
import Derived.Laws.CopyOwn
namespace Go.Proofs.Ytojcnncaccnpeaa
open Go.RowKit Go.PlainNum

/-- a copy within a row, as a step of a region that draws its order: which row has turned, and that nothing else has -/
theorem step_copy_gb {P : Program} {ops : Array Oper} {o : Oper} {a : Act} {w : World} {K : Act → World → Prop} {Q : Exit → Act → World → Prop} {E : Prop} (hgd : o.guard = none) (d s : Operand) (dT sT : TypeId)
    (ho : o.op = .call { callee := .builtin .copy, args := #[d, s], argTypes := #[dT, sT] }) (elem : TypeId) (hu : P.underlying dT = some (.slice elem)) (hsz : (P.info? elem).map (·.size) = some 1)
    (dp sp : Option Addr) (dLen dCap sLen sCap : Nat) (hd : a.eval d = .slice dp dLen dCap) (hs : a.eval s = .slice sp sLen sCap)
    (g off : Nat) (cur : List Value) (t : TypeId) (hg : w.heap[g]? = some (.cells cur.toArray t (0, 0))) (cs : List Value) (hn : cs.length = Nat.min sLen dLen)
    (hpos : 0 < cs.length → dp = some ⟨g, off, none⟩ ∧ ∃ ad, sp = some ad ∧ ∀ j v, cs[j]? = some v → w.cell? (ad.add j) = some v)
    (hfit : off + cs.length ≤ cur.length) (h1 : ∀ v ∈ cs, v.oneCell' = true)
    (h : ∀ w', Hid (w'.heap[g]? = some (.cells (splice cur off cs).toArray t (0, 0))) → w.grownBy w' (some g) → K (a.put o.dst (goInt cs.length)) w') :
    if Region.wanted o (yielded ops a.tmps) = true then Oper.wp P o a w K Q else E := by
  have hw : Region.wanted o (yielded ops a.tmps) = true := by simp [Region.wanted, hgd]
  rw [if_pos hw]
  by_cases h0 : cs.length = 0
  · obtain rfl : cs = [] := List.eq_nil_of_length_eq_zero h0
    have hrun := run_copy_none (P := P) w dT sT o.type elem dp sp dLen dCap sLen sCap hu hsz (by simpa using hn.symm)
    unfold Oper.wp
    simp [execOp, ho, resolve, invoke, builtin, hd, hs, hrun, Result.andThen]
    exact h w (show _ = _ by simpa [splice] using hg) (World.grownBy.refl _ _)
  · obtain ⟨rfl, ad, rfl, hsrc⟩ := hpos (by omega)
    have hrun := run_copy_row (P := P) w dT sT o.type elem g off dLen dCap ad sLen sCap cur.toArray t cs hu hsz hg hn hsrc (by simpa using hfit) h1
    unfold Oper.wp
    simp [execOp, ho, resolve, invoke, builtin, hd, hs, hrun, Result.andThen]
    exact h _ (show _ = _ by simpa [splice] using setRow_heap w g _ _ t _ hg) ⟨rfl, rfl, rfl, by simp [World.setRow], fun k _ hne => setRow_other w g k _ (fun e => hne (by rw [e]))⟩

/-- one laid in at place k -/
def insN (f : Nat → Nat) (x k : Nat) : Nat → Nat := fun j => if j < k then f j else if j = k then x else f (j - 1)
theorem own_cur {w : World} {base n cap g : Nat} {xs : List Value} (h : w.ownsRow base 22 1 (.slice (some ⟨g, 0, none⟩) n cap) n xs) :
    ∃ cur : List Value, w.heap[g]? = some (.cells cur.toArray 22 (0, 0)) ∧ cur.length = cap ∧ cur.take n = xs ∧ base ≤ g ∧ n ≤ cap ∧ cap ≤ maxLen := by
  rcases h.2 with ⟨hv, _⟩ | ⟨g', cap', cur, hv, hb, hg, hnc, hcm, hcs, htake⟩
  · simp at hv
  · simp only [Value.slice.injEq, Option.some.injEq, Addr.mk.injEq, and_true, true_and] at hv
    obtain ⟨rfl, rfl⟩ := hv
    refine ⟨cur.toList, by simpa using hg, by rw [Array.length_toList, hcs, Nat.mul_one], by rw [Nat.mul_one] at htake; exact htake, hb, hnc, hcm⟩
theorem own_mk {w : World} {base n cap g : Nat} {cur : List Value} (hg : w.heap[g]? = some (.cells cur.toArray 22 (0, 0))) (hl : cur.length = cap) (hb : base ≤ g) (hnc : n ≤ cap) (hcm : cap ≤ maxLen) :
    w.ownsRow base 22 1 (.slice (some ⟨g, 0, none⟩) n cap) n (cur.take n) :=
  ⟨by simp; omega, .inr ⟨g, cap, cur.toArray, rfl, hb, hg, hnc, hcm, by simpa using hl, by simp⟩⟩

theorem ins_list {cur H : List Value} {i k : Nat} {x : Value} (hH : H.length = i) (hk : k ≤ i) (htake : cur.take (i + 1) = H ++ [.slice none 0 0]) :
    ((splice cur (k + 1) (H.drop k)).take (i + 1)).set k x = H.take k ++ ([x] ++ H.drop k) := by
  have hcl : i + 1 ≤ cur.length := by
    have := congrArg List.length htake
    simp at this; omega
  have e1 : cur.take k = H.take k := by
    have := congrArg (List.take k) htake
    rw [List.take_take, Nat.min_eq_left (by omega), List.take_append_of_le_length (by omega)] at this
    exact this
  have hd : (H.drop k).length = i - k := by simp; omega
  have e2 : (splice cur (k + 1) (H.drop k)).take (i + 1) = cur.take (k + 1) ++ H.drop k := by
    unfold splice
    rw [← List.append_assoc, List.take_append_of_le_length (by simp; omega)]
    apply List.take_of_length_le
    simp; omega
  rw [e2]
  obtain ⟨y, hy⟩ : ∃ y, cur.take (k + 1) = cur.take k ++ [y] := ⟨cur[k]'(by omega), List.take_succ_eq_append_getElem (by omega)⟩
  rw [hy, e1, List.append_assoc]
  have hlk : (H.take k).length = k := by simp; omega
  rw [List.set_append_right _ _ (by omega), hlk, Nat.sub_self]
  rfl
theorem ins_hdv {i k g2 c2 : Nat} {bs ks : Nat → Nat} {S : Nat → List Int} {p : List Int} (hk : k ≤ i) :
    (hdv i bs ks S).take k ++ ([Value.slice (some ⟨g2, 0, none⟩) p.length c2] ++ (hdv i bs ks S).drop k) = hdv (i + 1) (insN bs g2 k) (insN ks c2 k) (insA S p k) := by
  have hl : ((hdv i bs ks S).take k).length = k := by rw [List.length_take, hdv_len]; omega
  apply List.ext_getElem?
  intro x
  by_cases hx : x < i + 1
  · rw [hdv_get _ _ _ _ _ hx]
    unfold insN insA
    by_cases h1 : x < k
    · rw [List.getElem?_append_left (by omega), List.getElem?_take_of_lt h1, hdv_get _ _ _ _ _ (by omega), if_pos h1, if_pos h1, if_pos h1]
    · rw [List.getElem?_append_right (by omega), hl]
      by_cases h2 : x = k
      · subst h2
        rw [Nat.sub_self, if_neg h1, if_neg h1, if_neg h1, if_pos rfl, if_pos rfl, if_pos rfl]
        rfl
      · rw [List.getElem?_append_right (by simp; omega), List.getElem?_drop, if_neg h1, if_neg h1, if_neg h1, if_neg h2, if_neg h2, if_neg h2]
        rw [show k + (x - k - [Value.slice (some ⟨g2, 0, none⟩) p.length c2].length) = x - 1 by simp; omega]
        exact hdv_get _ _ _ _ _ (by omega)
  · rw [List.getElem?_eq_none (by simp [hdv_len]; omega), List.getElem?_eq_none (by rw [hdv_len]; omega)]

/-- the table behind the copy and the store -/
theorem ins_tob {w5 w6 : World} {base g5 c5 i k g2 c2 : Nat} {bs ks : Nat → Nat} {S : Nat → List Int} {p : List Int} {cur : List Value} (hb : base ≤ g5) (hcm : c5 ≤ maxLen) (hk : k ≤ i) (hl : cur.length = c5) (hic : i + 1 ≤ c5) (htake : cur.take (i + 1) = hdv i bs ks S ++ [.slice none 0 0])
    (hg5 : w5.heap[g5]? = some (.cells cur.toArray 22 (0, 0)))
    (rows : ∀ x, x < i → w5.ownsRow base 3 1 (.slice (some ⟨bs x, 0, none⟩) (S x).length (ks x)) (S x).length ((S x).map (Value.int .i64)))
    (prow : w5.ownsRow base 3 1 (.slice (some ⟨g2, 0, none⟩) p.length c2) p.length (p.map (Value.int .i64))) (ap : ∀ x x', x < i → x' < i → x ≠ x' → bs x ≠ bs x') (ne : ∀ x, x < i → bs x ≠ g2)
    (h6 : w6.heap[g5]? = some (.cells (splice cur (k + 1) ((hdv i bs ks S).drop k)).toArray 22 (0, 0))) (G6 : w5.grownBy w6 (some g5)) :
    Tob (w6.setCell ⟨g5, k, none⟩ (.slice (some ⟨g2, 0, none⟩) p.length c2)) base (.slice (some ⟨g5, 0, none⟩) (i + 1) c5) (i + 1) (insN bs g2 k) (insN ks c2 k) (insA S p k) ∧ (∃ u, w6.cell? ⟨g5, k, none⟩ = some u) ∧ w6.frozen? ⟨g5, k, none⟩ = false := by
  have hHl := hdv_len i bs ks S
  have hsl : (splice cur (k + 1) ((hdv i bs ks S).drop k)).length = c5 := by rw [length_splice _ _ _ (by simp [hHl]; omega)]; exact hl
  have own5 : w5.ownsRow base 22 1 (.slice (some ⟨g5, 0, none⟩) (i + 1) c5) (i + 1) (cur.take (i + 1)) := own_mk hg5 hl hb hic hcm
  have own6 : w6.ownsRow base 22 1 (.slice (some ⟨g5, 0, none⟩) (i + 1) c5) (i + 1) ((splice cur (k + 1) ((hdv i bs ks S).drop k)).take (i + 1)) := own_mk h6 hsl hb hic hcm
  have St := own6.stored k (.slice (some ⟨g2, 0, none⟩) p.length c2)
  rw [ins_list hHl hk htake, ins_hdv hk] at St
  have keep : ∀ {b c L : Nat} {r : List Int}, w5.ownsRow base 3 1 (.slice (some ⟨b, 0, none⟩) L c) L (r.map (Value.int .i64)) → World.ownsRow (w6.setCell ⟨g5, k, none⟩ (.slice (some ⟨g2, 0, none⟩) p.length c2)) base 3 1 (.slice (some ⟨b, 0, none⟩) L c) L (r.map (Value.int .i64)) := fun q => by
    have hne : ∀ g, (Value.slice (some ⟨_, 0, none⟩) _ _).ownBlock = some g → some g5 ≠ some g := fun g hg e => own_tags q own5 (by decide) g hg (by show some g5 = some g; exact e)
    exact own_grown (own_grown q G6 hne) St.2 hne
  refine ⟨⟨St.1, fun x hx => ?_, fun x x' hx hx' hxx => ?_⟩, ?_, own6.frozenAt k⟩
  · unfold insN insA
    by_cases h1 : x < k
    · rw [if_pos h1, if_pos h1, if_pos h1]; exact keep (rows x (by omega))
    · rw [if_neg h1, if_neg h1, if_neg h1]
      by_cases h2 : x = k
      · rw [if_pos h2, if_pos h2, if_pos h2]; exact keep prow
      · rw [if_neg h2, if_neg h2, if_neg h2]; exact keep (rows (x - 1) (by omega))
  · unfold insN
    by_cases h1 : x < k
    · rw [if_pos h1]
      by_cases h1' : x' < k
      · rw [if_pos h1']; exact ap x x' (by omega) (by omega) hxx
      · rw [if_neg h1']
        by_cases h2' : x' = k
        · rw [if_pos h2']; exact ne x (by omega)
        · rw [if_neg h2']; exact ap x (x' - 1) (by omega) (by omega) (by omega)
    · rw [if_neg h1]
      by_cases h2 : x = k
      · rw [if_pos h2]
        by_cases h1' : x' < k
        · rw [if_pos h1']; exact fun e => ne x' (by omega) e.symm
        · rw [if_neg h1', if_neg (by omega)]; exact fun e => ne (x' - 1) (by omega) e.symm
      · rw [if_neg h2]
        by_cases h1' : x' < k
        · rw [if_pos h1']; exact ap (x - 1) x' (by omega) (by omega) (by omega)
        · rw [if_neg h1']
          by_cases h2' : x' = k
          · rw [if_pos h2']; exact ne (x - 1) (by omega)
          · rw [if_neg h2']; exact ap (x - 1) (x' - 1) (by omega) (by omega) (by omega)
  · rw [own6.cellAt k (by omega), List.getElem?_eq_getElem (by rw [List.length_take, hsl]; omega)]
    exact ⟨_, rfl⟩
end Go.Proofs.Ytojcnncaccnpeaa
