/- A table of numbers that is built row by row; the reference's copy of a table. -/
import Derived.Test.YtkpbaaigopheeaaTab
import Derived.Test.YtkpbaaigopheeaaMat
import Derived.Test.YtkpbaaigopheeaaOwn
import Derived.Test.YtkpbaaigopheeaaApp
namespace Go.Proofs.Ytkpbaaigopheeaa
open Go.RowKit Go.PlainNum

theorem infoRow : (Try.prog.info? 25).map (fun i => (i.zero, i.size, i.bytes)) = some (some (.slice none 0 0), 1, 24) := by kernel_rfl

theorem own_lower {w : World} {b b' n : Nat} {e : TypeId} {v : Value} {xs : List Value} (h : w.ownsRow b e 1 v n xs) (hb : b' ≤ b) : w.ownsRow b' e 1 v n xs := by
  refine ⟨h.1, ?_⟩
  rcases h.2 with h2 | ⟨g, cap, cur, hv, hg, r⟩
  · exact Or.inl h2
  · exact Or.inr ⟨g, cap, cur, hv, by omega, r⟩

/-- headers of k rows of W numbers -/
def heads (k W : Nat) (bs ks : Nat → Nat) : List Value := (List.range k).map fun j => Value.slice (some ⟨bs j, 0, none⟩) W (ks j)
/-- one place set -/
def put {α : Type} (f : Nat → α) (k : Nat) (x : α) : Nat → α := fun j => if j = k then x else f j
theorem put_at {α : Type} (f : Nat → α) (k : Nat) (x : α) : put f k x k = x := if_pos rfl
theorem put_lt {α : Type} (f : Nat → α) (k : Nat) (x : α) {j : Nat} (h : j < k) : put f k x j = f j := if_neg (by omega)
theorem heads_succ (k W : Nat) (bs ks : Nat → Nat) (b c : Nat) : heads k W bs ks ++ [Value.slice (some ⟨b, 0, none⟩) W c] = heads (k + 1) W (put bs k b) (put ks k c) := by
  unfold heads
  rw [List.range_succ, List.map_append]
  congr 1
  · apply List.map_congr_left
    intro j hj
    have := List.mem_range.1 hj
    rw [put_lt _ _ _ this, put_lt _ _ _ this]
  · simp [put_at]
theorem heads_len (k W : Nat) (bs ks : Nat → Nat) : (heads k W bs ks).length = k := by simp [heads]
theorem heads_get (k W : Nat) (bs ks : Nat → Nat) (j : Nat) (h : j < k) : (heads k W bs ks)[j]? = some (Value.slice (some ⟨bs j, 0, none⟩) W (ks j)) := by simp [heads, h]

/-- a table whose first k rows stand -/
structure Bld (w : World) (base : Nat) (v : Value) (k W : Nat) (bs ks : Nat → Nat) (R : Nat → List Int) : Prop where
  out : w.ownsRow base 25 1 v k (heads k W bs ks)
  row : ∀ i, i < k → w.ownsRow base 3 1 (.slice (some ⟨bs i, 0, none⟩) W (ks i)) W ((R i).map (Value.int .i64))
  apart : ∀ i i', i < k → i' < k → i ≠ i' → bs i ≠ bs i'

theorem Bld.below {w w' : World} {base k W : Nat} {v : Value} {bs ks : Nat → Nat} {R : Nat → List Int} (h : Bld w base v k W bs ks R) (hb : Below w.heap.size w w') : Bld w' base v k W bs ks R :=
  ⟨own_below h.out hb, fun i hi => own_below (h.row i hi) hb, h.apart⟩
theorem Bld.push {w w' : World} {base k W : Nat} {v v' : Value} {bs ks : Nat → Nat} {R : Nat → List Int} (h : Bld w base v k W bs ks R) {b c : Nat} {r : List Int}
    (O : w'.ownsRow base 25 1 v' (k + 1) (heads k W bs ks ++ [Value.slice (some ⟨b, 0, none⟩) W c])) (G : w.grownBy w' v.ownBlock)
    (hr : w.ownsRow base 3 1 (.slice (some ⟨b, 0, none⟩) W c) W (r.map (Value.int .i64))) (hb : ∀ i, i < k → bs i ≠ b) :
    Bld w' base v' (k + 1) W (put bs k b) (put ks k c) (put R k r) := by
  have keep : ∀ {b c : Nat} {r : List Int}, w.ownsRow base 3 1 (.slice (some ⟨b, 0, none⟩) W c) W (r.map (Value.int .i64)) → w'.ownsRow base 3 1 (.slice (some ⟨b, 0, none⟩) W c) W (r.map (Value.int .i64)) := fun q =>
    own_grown q G (fun g hg => own_tags q h.out (by decide) g hg)
  refine ⟨by rw [← heads_succ]; exact O, fun i hi => ?_, fun i i' hi hi' hne => ?_⟩
  · by_cases hik : i = k
    · subst hik; rw [put_at, put_at, put_at]; exact keep hr
    · rw [put_lt _ _ _ (by omega), put_lt _ _ _ (by omega), put_lt _ _ _ (by omega)]; exact keep (h.row i (by omega))
  · by_cases hik : i = k
    · subst hik
      rw [put_at, put_lt _ _ _ (by omega)]
      exact fun e => hb i' (by omega) e.symm
    · rw [put_lt _ _ _ (show i < k by omega)]
      by_cases hik' : i' = k
      · subst hik'; rw [put_at]; exact hb i (by omega)
      · rw [put_lt _ _ _ (by omega)]; exact h.apart i i' (by omega) (by omega) hne
theorem row_lt {w : World} {base W c b : Nat} {xs : List Value} (h : w.ownsRow base 3 1 (.slice (some ⟨b, 0, none⟩) W c) W xs) : base ≤ b ∧ b < w.heap.size := h.lt b rfl
theorem Bld.mat {w : World} {base n W : Nat} {v : Value} {bs ks : Nat → Nat} {R : Nat → List Int} (h : Bld w base v n W bs ks R) (hn : 0 < n) :
    ∃ g cap, v = .slice (some ⟨g, 0, none⟩) n cap ∧ Mat w base w.heap.size g n W bs ks (fun i j => (R i).getD j 0) := by
  obtain ⟨A, cap, rfl⟩ := own_nil h.out
  obtain ⟨g, rfl⟩ := own_form h.out hn
  have hg := h.out.lt g rfl
  refine ⟨g, cap, rfl, fun i hi => ?_, fun i hi => ?_, fun i j hi hj => ?_, fun i j hi hj => ?_, h.apart, fun i hi => ?_, ⟨hg.2, fun i hi => (row_lt (h.row i hi)).2⟩, ⟨hg.1, fun i hi => (row_lt (h.row i hi)).1⟩⟩
  · rw [h.out.cellAt i (by omega), heads_get _ _ _ _ _ hi]
  · exact h.out.frozenAt i
  · have hl := (h.row i hi).1
    simp only [List.length_map, Nat.mul_one] at hl
    rw [(h.row i hi).cellAt j (by omega), List.getElem?_map, List.getElem?_eq_getElem (by omega)]
    simp [List.getD, List.getElem?_eq_getElem (show j < (R i).length by omega)]
  · exact (h.row i hi).frozenAt j
  · intro e
    exact own_tags (h.row i hi) h.out (by decide) (bs i) rfl (by rw [e]; rfl)
/-- the rows of the table are as they were read -/
theorem Bld.congr {w : World} {base k W : Nat} {v : Value} {bs ks : Nat → Nat} {R R' : Nat → List Int} (h : Bld w base v k W bs ks R) (e : ∀ i, i < k → R i = R' i) : Bld w base v k W bs ks R' :=
  ⟨h.out, fun i hi => by rw [← e i hi]; exact h.row i hi, h.apart⟩
theorem nm_of {n : Nat} {Z : Nat → List Int} (h : sysOk n Z = true) : Nm n (Z 0).length (fun i j => (Z i).getD j 0) := by
  intro i j hi hj
  obtain ⟨_, _, q⟩ := sysOk_is h
  obtain ⟨q1, _, _, q4⟩ := q i hi
  exact allNum_get (Z i) q4 j (by omega)
theorem bld_zero (w : World) {W : Nat} {bs ks : Nat → Nat} {R : Nat → List Int} : Bld (w.alloc (.cells #[] 25)) w.heap.size (.slice (some ⟨w.heap.size, 0, none⟩) 0 0) 0 W bs ks R :=
  ⟨World.ownsRow_lit w #[] 0 (Nat.le_refl _) (by unfold maxLen; omega) rfl, fun i hi => absurd hi (by omega), fun i _ hi => absurd hi (by omega)⟩

set_option maxRecDepth 100000 in
set_option maxHeartbeats 4000000 in
theorem l1Copy_any (B : Nat) (A : Option Addr) (n c W : Nat) (Z : Nat → List Int) (w : World) (h : RdT w B A n Z) (hB : B ≤ w.heap.size) (hn1 : 0 < n) (hn2 : n ≤ 40) (hW : ∀ j, j < n → (Z j).length = W) (hW1 : 0 < W) (hW2 : W ≤ 40) :
    Calls Try.prog 34 #[.slice A n c] w fun e w' => ∃ v bs ks, e = .returned v ∧ Bld w' w.heap.size v n W bs ks Z ∧ Below w.heap.size w w' := by
  obtain ⟨i0, hi0, hz0, hz1, hz2⟩ := info_parts infoInt
  obtain ⟨i1, hi1, hy0, hy1, hy2⟩ := info_parts infoRow
  obtain ⟨b, off, rfl, hb, hc⟩ := h hn1
  have hc := Lib.hid hc
  have hW := Lib.hid hW
  clear h
  go_enter Try.func34, Try.ntmps34
  go_wp2_with fail
  go_loopw [3, 4] (fun p i wr => ∃ (k : Nat) (bs ks : Nat → Nat), i = .int .i64 k ∧ k ≤ n ∧ Hid (Bld wr w.heap.size p k W bs ks Z) ∧ Hid (Below w.heap.size w wr)) (fun _ i _ => n - (intOf i).toNat)
  case atStart => exact ⟨0, fun _ => 0, fun _ => 0, rfl, Nat.zero_le _, Lib.hid (bld_zero w), Lib.hid ((Below.refl _ _).alloc (Nat.le_refl _) _)⟩
  case round =>
    rename_i p wr _
    obtain ⟨k, bs, ks, rfl, hk, HM, HB⟩ := hrel
    obtain ⟨Cp, d, rfl⟩ := own_nil HM.out.out
    by_cases hlt : k < n
    · obtain ⟨X, kc, c1, H1⟩ := hc.out k hlt
      rw [hW.out k hlt] at c1 H1
      obtain ⟨xb, xo, rfl, hxb, -⟩ := H1.2 hW1
      have d1 : wr.cell? ⟨b, off + k, none⟩ = some (.slice (some ⟨xb, xo, none⟩) W kc) := (HB.out.cell (p := ⟨b, off + k, none⟩) (show b < w.heap.size by omega)).trans c1
      have szr : w.heap.size ≤ wr.heap.size := HB.out.size
      have H2 := Lib.hid (H1.below HB.out hB)
      have OL := Lib.hid (World.ownsRow_lit (base := wr.heap.size) (e := 3) (size := 1) wr #[] 0 (Nat.le_refl _) (by unfold maxLen; omega) rfl)
      have d1 : (wr.alloc (.cells #[] 3)).cell? ⟨b, off + k, none⟩ = some (.slice (some ⟨xb, xo, none⟩) W kc) := (((Below.refl wr.heap.size wr).alloc (Nat.le_refl _) (.cells #[] 3)).cell (p := ⟨b, off + k, none⟩) (show b < wr.heap.size by omega)).trans d1
      have R2 := Lib.hid (H2.out.below ((Below.refl wr.heap.size wr).alloc (Nat.le_refl _) (.cells #[] 3)) (by omega))
      clear H1 c1
      go_wp2_with (at_builtin; refine wpList_append_rd rfl _ _ 25 rfl wr.heap.size 3 i0 (.int .i64 0) 8 Try.underlying25 hi0 hz0 hz1 hz2 rfl _ 0 [] rfl OL.out (some ⟨xb, xo, none⟩) W kc (Z k) B rfl R2.out (by intro q; cases q) (by unfold maxLen; omega) (by omega) (by simp) ?_)
      intro v1 w1 O1 G1
      have B1 : Below wr.heap.size wr w1 := ((Below.refl _ _).alloc (Nat.le_refl _) _).grown G1 (by simp) (by intro q hq; simp [Value.ownBlock] at hq; omega)
      have O1 : w1.ownsRow wr.heap.size 3 1 v1 W ((Z k).map (Value.int .i64)) := by simpa using O1
      obtain ⟨C1, d2, rfl⟩ := own_nil O1
      obtain ⟨g1, rfl⟩ := own_form O1 hW1
      have M1 := Lib.hid (HM.out.below B1)
      have A1 := Lib.hid (fun i (hi : i < k) => (by have h1 := (row_lt (HM.out.row i hi)).2; have h2 := (row_lt O1).1; omega : bs i ≠ g1))
      have szr1 : wr.heap.size ≤ w1.heap.size := B1.size
      have B1' := Lib.hid (HB.out.trans (B1.mono szr))
      have O1' := Lib.hid (own_lower O1 szr)
      clear O1 G1 B1 OL R2
      go_wp2_with (at_builtin; refine wpList_append_own _ rfl _ _ 24 rfl w.heap.size 25 i1 (.slice none 0 0) 1 24 Try.underlying24 hi1 hy0 hy1 hy2 rfl (by decide) _ _ _ rfl (M1.out.out.alloc _) ⟨w1.heap.size, 0, none⟩ 1 1 [.slice (some ⟨g1, 0, none⟩) W d2] rfl rfl (cell_one_new _ _ _) (by intro u hu; simp at hu; subst hu; rfl) (by unfold maxLen; omega) (by omega) (by simp; omega) ?_)
      intro v2 w2 O2 G2 _
      have X2 := (M1.out.below ((Below.refl _ _).alloc (Nat.le_refl _) _)).push O2 G2 (own_below O1'.out ((Below.refl _ _).alloc (Nat.le_refl _) _)) A1.out
      have X2 := Lib.hid (X2.congr (R' := Z) (fun i hi => by
        by_cases hik : i = k
        · subst hik; rw [put_at]
        · rw [put_lt _ _ _ (by omega)]))
      have Y2 := Lib.hid ((B1'.out.alloc (by omega) (.cells #[.slice (some ⟨g1, 0, none⟩) W d2] 25)).grown G2 (by simp; omega) (by intro q hq; have := M1.out.out.lt q hq; omega))
      clear O2 G2
      go_wp2_with fail
      go_roundw
      case rel => exact ⟨k + 1, _, _, by go_num, by omega, X2, Y2⟩
      case measure => simp [intOf]; omega
    · obtain rfl : k = n := by omega
      go_wp2_with fail
      go_ret
      exact ⟨_, bs, ks, rfl, HM.out, HB.out⟩
end Go.Proofs.Ytkpbaaigopheeaa
