/- A table of numbers in memory: a row of slice headers, each header's row of integers. -/
import Derived.Test.YtkpbaaigopheeaaAll
import Derived.Test.YtkpbaaigopheeaaPlainGauss
import Derived.Deep.RegionHeldLaw
namespace Go.Proofs.Ytkpbaaigopheeaa
open Go.RowKit Go.PlainNum

/-- block g holds n headers; header i's row (block bs i) holds W numbers; all below block T -/
structure Mat (w : World) (B T g n W : Nat) (bs ks : Nat → Nat) (M : Nat → Nat → Int) : Prop where
  out : ∀ i, i < n → w.cell? ⟨g, i, none⟩ = some (.slice (some ⟨bs i, 0, none⟩) W (ks i))
  ofz : ∀ i, i < n → w.frozen? ⟨g, i, none⟩ = false
  row : ∀ i j, i < n → j < W → w.cell? ⟨bs i, j, none⟩ = some (.int .i64 (M i j))
  rfz : ∀ i j, i < n → j < W → w.frozen? ⟨bs i, j, none⟩ = false
  apart : ∀ i i', i < n → i' < n → i ≠ i' → bs i ≠ bs i'
  sep : ∀ i, i < n → bs i ≠ g
  lo : g < T ∧ ∀ i, i < n → bs i < T
  hi : B ≤ g ∧ ∀ i, i < n → B ≤ bs i

theorem Mat.congr {w : World} {B T g n W : Nat} {bs ks : Nat → Nat} {M M' : Nat → Nat → Int} (h : Mat w B T g n W bs ks M) (e : Eqm n W M M') : Mat w B T g n W bs ks M' :=
  ⟨h.out, h.ofz, fun i j hi hj => by rw [h.row i j hi hj, e i j hi hj], h.rfz, h.apart, h.sep, h.lo, h.hi⟩
theorem Mat.drew {w : World} {B T g n W : Nat} {bs ks : Nat → Nat} {M : Nat → Nat → Int} (h : Mat w B T g n W bs ks M) : Mat w.drew B T g n W bs ks M :=
  ⟨h.out, h.ofz, h.row, h.rfz, h.apart, h.sep, h.lo, h.hi⟩
theorem Mat.drewN {w : World} {B T g n W : Nat} {bs ks : Nat → Nat} {M : Nat → Nat → Int} (h : Mat w B T g n W bs ks M) (a : Nat) : Mat (w.drewN a) B T g n W bs ks M :=
  ⟨h.out, h.ofz, h.row, h.rfz, h.apart, h.sep, h.lo, h.hi⟩
theorem Mat.below {w w' : World} {B T g n W : Nat} {bs ks : Nat → Nat} {M : Nat → Nat → Int} (h : Mat w B T g n W bs ks M) (hb : Below T w w') : Mat w' B T g n W bs ks M :=
  ⟨fun i hi => (hb.cell (p := ⟨g, i, none⟩) h.lo.1).trans (h.out i hi), fun i hi => (hb.frozen (p := ⟨g, i, none⟩) h.lo.1).trans (h.ofz i hi),
   fun i j hi hj => (hb.cell (p := ⟨bs i, j, none⟩) (h.lo.2 i hi)).trans (h.row i j hi hj), fun i j hi hj => (hb.frozen (p := ⟨bs i, j, none⟩) (h.lo.2 i hi)).trans (h.rfz i j hi hj), h.apart, h.sep, h.lo, h.hi⟩
theorem Mat.store {w : World} {B T g n W : Nat} {bs ks : Nat → Nat} {M : Nat → Nat → Int} (h : Mat w B T g n W bs ks M) (a b : Nat) (ha : a < n) (hb : b < W) (x : Int) :
    Mat (w.setCell ⟨bs a, b, none⟩ (.int .i64 x)) B T g n W bs ks (upd M a b x) := by
  refine ⟨fun i hi => ?_, fun i hi => ?_, fun i j hi hj => ?_, fun i j hi hj => ?_, h.apart, h.sep, h.lo, h.hi⟩
  · rw [World.cell?_setCell_other _ _ _ _ (by intro e; exact h.sep a ha (congrArg Addr.block e))]; exact h.out i hi
  · rw [World.frozen?_setCell]; exact h.ofz i hi
  · unfold upd
    by_cases hq : i = a ∧ j = b
    · obtain ⟨rfl, rfl⟩ := hq
      rw [World.cell?_setCell_same _ _ _ (h.row i j hi hj), if_pos ⟨rfl, rfl⟩]
    · rw [World.cell?_setCell_other _ _ _ _ (by
        intro e
        by_cases hia : i = a
        · subst hia; exact hq ⟨rfl, (congrArg Addr.off e).symm⟩
        · exact h.apart a i ha hi (fun e => hia e.symm) (congrArg Addr.block e)), if_neg hq]
      exact h.row i j hi hj
  · rw [World.frozen?_setCell]; exact h.rfz i j hi hj
/-- what changes places with the rows -/
def swn (f : Nat → Nat) (a b : Nat) : Nat → Nat := fun i => if i = a then f b else if i = b then f a else f i
theorem Mat.swap {w : World} {B T g n W : Nat} {bs ks : Nat → Nat} {M : Nat → Nat → Int} (h : Mat w B T g n W bs ks M) (a b : Nat) (ha : a < n) (hb : b < n) :
    Mat ((w.setCell ⟨g, a, none⟩ (.slice (some ⟨bs b, 0, none⟩) W (ks b))).setCell ⟨g, b, none⟩ (.slice (some ⟨bs a, 0, none⟩) W (ks a))) B T g n W (swn bs a b) (swn ks a b) (swp M a b) := by
  have hA : ∀ i, i < n → ((w.setCell ⟨g, a, none⟩ (.slice (some ⟨bs b, 0, none⟩) W (ks b))).setCell ⟨g, b, none⟩ (.slice (some ⟨bs a, 0, none⟩) W (ks a))).cell? ⟨g, i, none⟩ = some (.slice (some ⟨swn bs a b i, 0, none⟩) W (swn ks a b i)) := fun i hi => by
    unfold swn
    by_cases hib : i = b
    · subst hib
      have hs : ∃ u, (w.setCell ⟨g, a, none⟩ (.slice (some ⟨bs i, 0, none⟩) W (ks i))).cell? ⟨g, i, none⟩ = some u := by
        by_cases hia : i = a
        · subst hia; exact ⟨_, World.cell?_setCell_same _ _ _ (h.out i hi)⟩
        · exact ⟨_, (World.cell?_setCell_other _ _ _ _ (by intro e; exact hia (congrArg Addr.off e).symm)).trans (h.out i hi)⟩
      obtain ⟨u, hu⟩ := hs
      rw [World.cell?_setCell_same _ _ _ hu]
      by_cases hia : i = a
      · subst hia; simp
      · simp [hia]
    · rw [World.cell?_setCell_other _ _ _ _ (by intro e; exact hib (congrArg Addr.off e).symm)]
      by_cases hia : i = a
      · subst hia
        rw [World.cell?_setCell_same _ _ _ (h.out i hi)]; simp
      · rw [World.cell?_setCell_other _ _ _ _ (by intro e; exact hia (congrArg Addr.off e).symm), h.out i hi]
        simp [hia, hib]
  have hidx : ∀ i, i < n → ∃ i', i' < n ∧ swn bs a b i = bs i' ∧ (∀ j, swp M a b i j = M i' j) ∧ (i' = if i = a then b else if i = b then a else i) := fun i hi => by
    unfold swn swp
    by_cases hia : i = a
    · exact ⟨b, hb, by simp [hia], fun j => by simp [hia], by simp [hia]⟩
    · by_cases hib : i = b
      · exact ⟨a, ha, by rw [if_neg hia, if_pos hib], fun j => by rw [if_neg hia, if_pos hib], by rw [if_neg hia, if_pos hib]⟩
      · exact ⟨i, hi, by simp [hia, hib], fun j => by simp [hia, hib], by simp [hia, hib]⟩
  refine ⟨hA, fun i hi => by rw [World.frozen?_setCell, World.frozen?_setCell]; exact h.ofz i hi, fun i j hi hj => ?_, fun i j hi hj => ?_, fun i i' hi hi' hne => ?_, fun i hi => ?_, ⟨h.lo.1, fun i hi => ?_⟩, ⟨h.hi.1, fun i hi => ?_⟩⟩
  · obtain ⟨i', h1, h2, h3, _⟩ := hidx i hi
    rw [h2, h3, World.cell?_setCell_other _ _ _ _ (by intro e; exact h.sep i' h1 (congrArg Addr.block e).symm), World.cell?_setCell_other _ _ _ _ (by intro e; exact h.sep i' h1 (congrArg Addr.block e).symm)]
    exact h.row i' j h1 hj
  · obtain ⟨i', h1, h2, _, _⟩ := hidx i hi
    rw [h2, World.frozen?_setCell, World.frozen?_setCell]
    exact h.rfz i' j h1 hj
  · obtain ⟨k, h1, h2, _, h4⟩ := hidx i hi
    obtain ⟨k', h1', h2', _, h4'⟩ := hidx i' hi'
    rw [h2, h2']
    apply h.apart k k' h1 h1'
    intro e
    rw [h4, h4'] at e
    apply hne
    split at e <;> split at e <;> (try split at e) <;> (try split at e) <;> omega
  · obtain ⟨i', h1, h2, _, _⟩ := hidx i hi
    rw [h2]; exact h.sep i' h1
  · obtain ⟨i', h1, h2, _, _⟩ := hidx i hi
    rw [h2]; exact h.lo.2 i' h1
  · obtain ⟨i', h1, h2, _, _⟩ := hidx i hi
    rw [h2]; exact h.hi.2 i' h1
end Go.Proofs.Ytkpbaaigopheeaa
