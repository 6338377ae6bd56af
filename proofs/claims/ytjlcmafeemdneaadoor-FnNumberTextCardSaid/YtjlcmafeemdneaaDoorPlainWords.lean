/- A text cut into words: as strings.Split cuts it, and as the reference does. No program in sight. -/
import Derived.Test.YtjlcmafeemdneaaDoorPlainRead
import Derived.Lib.SplitLaws
namespace Go.PlainNum

theorem ext_S2 (s : ByteArray) (f i : Nat) : s.extract f i = S ((s.data.toList.drop f).take (i - f)) := by rw [Lib.extract_eq, S_def]

theorem splitB_sp (c : UInt8) : ∀ (k : Nat) (s : ByteArray), s.size ≤ k → Lib.splitB ⟨#[c]⟩ 0 (Lib.countB s ⟨#[c]⟩) s = (sp c s.data.toList).map S := by
  intro k
  induction k with
  | zero =>
    intro s hk
    have he : s = ByteArray.empty := ByteArray.size_eq_zero_iff.1 (by omega)
    subst he
    have h : Lib.indexB ByteArray.empty ⟨#[c]⟩ = -1 := rfl
    rw [Lib.countB_miss _ _ h, Lib.splitB_zero]
    rw [show (ByteArray.empty).data.toList = [] from rfl, sp_whole c [] (by simp)]
    rw [List.map_cons, List.map_nil, S_def]
    rfl
  | succ k ih =>
    intro s hk
    have hl : s.data.toList.length = s.size := Array.length_toList
    rcases index_spec c s.data.toList with ⟨h1, h2⟩ | ⟨a, b, h1, h2, h3⟩
    · have h : Lib.indexB s ⟨#[c]⟩ = -1 := h1
      rw [Lib.countB_miss _ _ h, Lib.splitB_zero, sp_whole c _ h2]
      rw [List.map_cons, List.map_nil, ← S_of s]
    · have h : Lib.indexB s ⟨#[c]⟩ = (a.length : Int) := h3
      have e1 : s.extract 0 (a.length + 0) = S a := by
        rw [ext_S2, h2]; simp
      have e2 : s.extract (a.length + (⟨#[c]⟩ : ByteArray).size) s.size = S b := by
        have hb : b.length = s.size - (a.length + 1) := by rw [← hl, h2]; simp; omega
        rw [ext_S2, h2, show (⟨#[c]⟩ : ByteArray).size = 1 from rfl, ← hb]
        have : (a ++ c :: b).drop (a.length + 1) = b := by
          rw [show a ++ c :: b = (a ++ [c]) ++ b by simp, List.drop_append_of_le_length (by simp), List.drop_of_length_le (by simp), List.nil_append]
        rw [this, List.take_of_length_le (by omega)]
      have hsz : (S b).size ≤ k := by
        rw [S_size]
        have : s.data.toList.length = a.length + (b.length + 1) := by rw [h2]; simp
        omega
      rw [Lib.countB_hit s ⟨#[c]⟩ a.length (show 1 ≤ (⟨#[c]⟩ : ByteArray).size from Nat.le_refl 1) h, Nat.add_comm 1, Lib.splitB_hit _ _ _ _ a.length h, e1, e2, ih (S b) hsz, S_toList, h2, sp_cut c a b h1]
      rfl

/-- the numbers of words, and whether all are such -/
def pnb (ps : List (List UInt8)) : Bool := ps.all fun p => (pir p).2
def pnz (ps : List (List UInt8)) : List Int := if pnb ps = true then ps.map (fun p => (pir p).1) else []
theorem pnz_yes {ps : List (List UInt8)} (h : pnb ps = true) : pnz ps = ps.map (fun p => (pir p).1) := if_pos h
theorem pnz_no {ps : List (List UInt8)} (h : pnb ps = false) : pnz ps = [] := if_neg (by rw [h]; simp)
theorem pnb_no (ps : List (List UInt8)) (k : Nat) (p : List UInt8) (hp : ps[k]? = some p) (h : (pir p).2 = false) : pnb ps = false := by
  unfold pnb
  rw [List.all_eq_false]
  obtain ⟨hk, he⟩ := List.getElem?_eq_some_iff.1 hp
  exact ⟨p, by rw [← he]; exact List.getElem_mem hk, by simp [h]⟩
theorem pnb_yes (ps : List (List UInt8)) (h : ∀ (k : Nat) p, ps[k]? = some p → (pir p).2 = true) : pnb ps = true := by
  unfold pnb
  rw [List.all_eq_true]
  intro p hp
  obtain ⟨k, hk, he⟩ := List.getElem_of_mem hp
  exact h k p (by rw [List.getElem?_eq_getElem hk, he])
/-- the numbers of the first k -/
def pnk (ps : List (List UInt8)) (k : Nat) : List Int := (ps.take k).map fun p => (pir p).1
theorem pnk_zero (ps : List (List UInt8)) : pnk ps 0 = [] := rfl
theorem pnk_len (ps : List (List UInt8)) (k : Nat) (h : k ≤ ps.length) : (pnk ps k).length = k := by unfold pnk; simp; omega
theorem pnk_succ (ps : List (List UInt8)) (k : Nat) (p : List UInt8) (hp : ps[k]? = some p) : pnk ps (k + 1) = pnk ps k ++ [(pir p).1] := by
  obtain ⟨hk, he⟩ := List.getElem?_eq_some_iff.1 hp
  unfold pnk
  rw [List.take_succ_eq_append_getElem hk, List.map_append, he]
  rfl
theorem pnk_full (ps : List (List UInt8)) : pnk ps ps.length = ps.map fun p => (pir p).1 := by unfold pnk; rw [List.take_length]
theorem sp_len (c : UInt8) : ∀ (l : List UInt8), (sp c l).length ≤ l.length + 1 := by
  intro l
  have H : ∀ (l cur : List UInt8), (onto cur (sp c l)).length ≤ l.length + 1 := by
    intro l
    induction l with
    | nil => intro cur; rw [sp_end]; simp
    | cons x r ih =>
      intro cur
      by_cases hx : x = c
      · subst hx
        rw [sp_hit]
        have := ih []
        simp; omega
      · rw [sp_miss c x r cur hx]
        have := ih (cur ++ [x])
        simp; omega
  have := H l []
  rwa [onto_nil] at this
theorem sp_small (c : UInt8) : ∀ (l cur p : List UInt8), p ∈ onto cur (sp c l) → p.length ≤ cur.length + l.length := by
  intro l
  induction l with
  | nil => intro cur p hp; rw [sp_end] at hp; simp at hp; subst hp; simp
  | cons x r ih =>
    intro cur p hp
    by_cases hx : x = c
    · subst hx
      rw [sp_hit] at hp
      rcases List.mem_cons.1 hp with rfl | hp
      · omega
      · have := ih [] p hp
        simp at this ⊢; omega
    · rw [sp_miss c x r cur hx] at hp
      have := ih _ p hp
      simp at this ⊢; omega
theorem sp_le (c : UInt8) (l p : List UInt8) (h : p ∈ sp c l) : p.length ≤ l.length := by
  have := sp_small c l [] p (by rw [onto_nil]; exact h)
  simpa using this
theorem pnz_len (ps : List (List UInt8)) : (pnz ps).length ≤ ps.length := by
  unfold pnz
  split
  · simp
  · simp
attribute [irreducible] pnb pnz pnk
end Go.PlainNum
