/- The contracts of CountIndependent, of the program and of the reference. -/
import Derived.Test.YtkpbaaigopheeaaBld
import Derived.Test.YtkpbaaigopheeaaSRed
namespace Go.Proofs.Ytkpbaaigopheeaa
open Go.RowKit Go.PlainNum

/-- the numbers of a table -/
def tabM (Z : Nat → List Int) : Nat → Nat → Int := fun i j => (Z i).getD j 0
/-- how many independent rows there are; -1 where the form isn't right -/
def ciOf (n : Nat) (Z : Nat → List Int) : Int := if sysOk n Z = true then ((gau n (Z 0).length (tabM Z) (Z 0).length).1.length : Int) else -1
theorem ciOf_no {n : Nat} {Z : Nat → List Int} (h : sysOk n Z = false) : ciOf n Z = -1 := if_neg (by rw [h]; simp)
theorem ciOf_yes {n W : Nat} {Z : Nat → List Int} (h : sysOk n Z = true) (hW : (Z 0).length = W) : ciOf n Z = ((gau n W (tabM Z) W).1.length : Int) := by
  subst hW
  exact if_pos h
attribute [irreducible] ciOf tabM

theorem systemOk_eq (B : Nat) (A : Option Addr) (n c : Nat) (Z : Nat → List Int) (r : Bool) (hr : sysOk n Z = r) (w : World) (h : RdT w B A n Z) (hL : ∀ j, j < n → ((Z j).length : Int) ≤ 4000000) (hn : (n : Int) ≤ 4000000) :
    Calls Try.prog 27 #[.slice A n c] w fun e w' => e = .returned (.bool r) ∧ w = w' := by
  subst hr
  exact systemOk_any B A n c Z w h hL hn
theorem l1Rows_eq (B : Nat) (A : Option Addr) (n c : Nat) (Z : Nat → List Int) (r : Bool) (hr : sysOk n Z = r) (w : World) (h : RdT w B A n Z) (hL : ∀ j, j < n → ((Z j).length : Int) ≤ 4000000) (hn : (n : Int) ≤ 4000000) :
    Calls Try.prog 32 #[.slice A n c] w fun e w' => e = .returned (.bool r) ∧ ∃ m, w' = w.drewN m := by
  subst hr
  exact l1Rows_any B A n c Z w h hL hn

/-- what the reduction gives back, for the walk -/
def Redn (w w' : World) (B l : Nat) (e : Ending) : Prop :=
  ∃ (A : Option Addr) (c : Nat), e = .returned (.slice A l c) ∧ Below B w w'

theorem red_len (g n k W C B l : Nat) (bs ks : Nat → Nat) (M : Nat → Nat → Int) (hl : (gau n W M C).1.length = l) (w : World) (h : Mat w B w.heap.size g n W bs ks M) (hNm : Nm n W M) (hn : 0 < n) (hn' : n ≤ 100) (hW : W ≤ 100) (hC : C ≤ W) :
    Calls Try.prog 29 #[.slice (some ⟨g, 0, none⟩) n k, .int .i64 C] w fun e w' => Redn w w' B l e := by
  subst hl
  exact (red_any g n k W C B bs ks M w h hNm hn hn' hW hC).mono fun e w' ⟨A, l, c, _, _, he, hl, _, _, _, hb⟩ => ⟨A, c, by rw [he, hl], hb⟩
theorem sred_len (g n k W C B l : Nat) (bs ks : Nat → Nat) (M : Nat → Nat → Int) (hl : (gau n W M C).1.length = l) (w : World) (h : Mat w B w.heap.size g n W bs ks M) (hNm : Nm n W M) (hn : 0 < n) (hn' : n ≤ 100) (hW : W ≤ 100) (hC : C ≤ W) :
    Calls Try.prog 33 #[.slice (some ⟨g, 0, none⟩) n k, .int .i64 C] w fun e w' => Redn w w' B l e := by
  subst hl
  exact (sred_any g n k W C B bs ks M w h hNm hn hn' hW hC).mono fun e w' ⟨A, l, c, _, _, he, hl, _, _, _, hb⟩ => ⟨A, c, by rw [he, hl], hb⟩
theorem nm_tab {n : Nat} {Z : Nat → List Int} (h : sysOk n Z = true) : Nm n (Z 0).length (tabM Z) := by unfold tabM; exact nm_of h

set_option maxRecDepth 100000 in
set_option maxHeartbeats 4000000 in
theorem ci_any (B : Nat) (A : Option Addr) (n c : Nat) (Z : Nat → List Int) (w : World) (h : RdT w B A n Z) (hB : B ≤ w.heap.size) (hL : ∀ j, j < n → ((Z j).length : Int) ≤ 4000000) (hn : (n : Int) ≤ 4000000) :
    Calls Try.prog 9 #[.slice A n c] w fun e w' => e = .returned (.int .i64 (ciOf n Z)) ∧ Below w.heap.size w w' := by
  obtain ⟨s, hs⟩ : ∃ s, sysOk n Z = s := ⟨_, rfl⟩
  have H := Lib.hid h
  have HS := Lib.hid hs
  have HL := Lib.hid hL
  cases s with
  | false =>
    have R := Lib.hid (ciOf_no hs)
    clear h hs hL
    go_enter Try.func9, Try.ntmps9
    go_wp2_with (go_at_call 27; refine (systemOk_eq B _ _ _ Z _ HS.out _ H.out HL.out (by omega)).mono ?_; rintro e w' ⟨rfl, rfl⟩)
    go_ret
    exact ⟨by rw [R.out]; rfl, Below.refl _ _⟩
  | true =>
    obtain ⟨hn1, hn2, hq⟩ := sysOk_is hs
    obtain ⟨W, hW0⟩ : ∃ W, (Z 0).length = W := ⟨_, rfl⟩
    have hW1 : 0 < W := by have := (hq 0 hn1).2.1; omega
    have hW2 : W ≤ 40 := by have := (hq 0 hn1).2.2.1; omega
    have hW : Hid (∀ j, j < n → (Z j).length = W) := Lib.hid (fun j hj => by rw [(hq j hj).1, hW0])
    have NM : Hid (Nm n W (tabM Z)) := Lib.hid (hW0 ▸ nm_tab hs)
    obtain ⟨l, hl⟩ : ∃ l, (gau n W (tabM Z) W).1.length = l := ⟨_, rfl⟩
    have R : Hid (ciOf n Z = (l : Int)) := Lib.hid (by rw [ciOf_yes hs hW0, hl])
    have hl := Lib.hid hl
    obtain ⟨i0, hi0, hz0, hz1, hz2⟩ := info_parts infoInt
    obtain ⟨i1, hi1, hy0, hy1, hy2⟩ := info_parts infoRow
    obtain ⟨b, off, rfl, hb, hc⟩ := h hn1
    obtain ⟨X0, k0, c0, -⟩ := hc 0 hn1
    rw [Nat.add_zero, hW0] at c0
    have c0 := Lib.hid c0
    have hc := Lib.hid hc
    clear h hq hs hL hW0
    go_enter Try.func9, Try.ntmps9
    go_wp2_with (go_at_call 27; refine (systemOk_eq B _ _ _ Z _ HS.out _ H.out HL.out (by omega)).mono ?_; rintro e w' ⟨rfl, rfl⟩)
    go_loopw [3, 12] (fun p i wr => ∃ (k : Nat) (bs ks : Nat → Nat), i = .int .i64 k ∧ k ≤ n ∧ Hid (Bld wr w.heap.size p k W bs ks Z) ∧ Hid (Below w.heap.size w wr)) (fun _ i _ => n - (intOf i).toNat)
    case atStart => exact ⟨0, fun _ => 0, fun _ => 0, rfl, Nat.zero_le _, Lib.hid (bld_zero w), Lib.hid ((Below.refl _ _).alloc (Nat.le_refl _) _)⟩
    case round =>
      rename_i p wr _
      obtain ⟨k, bs, ks, rfl, hk, HM, HB⟩ := hrel
      obtain ⟨Cp, d, rfl⟩ := own_nil HM.out.out
      by_cases hlt : k < n
      · obtain ⟨X, kc, c1, H1⟩ := hc.out k hlt
        rw [hW.out k hlt] at c1 H1
        obtain ⟨xb, xo, rfl, hxb, -⟩ := H1.2 hW1
        have d1 : wr.cell? ⟨b, off + k, none⟩ = some (.slice (some ⟨xb, xo, none⟩) W kc) := (HB.out.cell (p := ⟨b, off + k, none⟩) (show b < w.heap.size by omega)).trans c1
        have szr : w.heap.size ≤ wr.heap.size := HB.out.size
        have H2 := Lib.hid (H1.below HB.out hB)
        have OL := Lib.hid (World.ownsRow_lit (base := wr.heap.size) (e := 3) (size := 1) wr #[] 0 (Nat.le_refl _) (by unfold maxLen; omega) rfl)
        have R2 := Lib.hid (H2.out.below ((Below.refl wr.heap.size wr).alloc (Nat.le_refl _) (.cells #[] 3)) (by omega))
        clear H1 c1
        go_wp2_with (at_builtin; refine wpList_append_rd rfl _ _ 25 rfl wr.heap.size 3 i0 (.int .i64 0) 8 Try.underlying25 hi0 hz0 hz1 hz2 rfl _ 0 [] rfl OL.out (some ⟨xb, xo, none⟩) W kc (Z k) B rfl R2.out (by intro q; cases q) (by unfold maxLen; omega) (by omega) (by simp) ?_)
        intro v1 w1 O1 G1
        have B1 : Below wr.heap.size wr w1 := ((Below.refl _ _).alloc (Nat.le_refl _) _).grown G1 (by simp) (by intro q hq; simp [Value.ownBlock] at hq; omega)
        have O1 : w1.ownsRow wr.heap.size 3 1 v1 W ((Z k).map (Value.int .i64)) := by simpa using O1
        obtain ⟨C1, d2, rfl⟩ := own_nil O1
        obtain ⟨g1, rfl⟩ := own_form O1 hW1
        have M1 := Lib.hid (HM.out.below B1)
        have A1 := Lib.hid (fun i (hi : i < k) => (by have h1 := (row_lt (HM.out.row i hi)).2; have h2 := (row_lt O1).1; omega : bs i ≠ g1))
        have szr1 : wr.heap.size ≤ w1.heap.size := B1.size
        have B1' := Lib.hid (HB.out.trans (B1.mono szr))
        have O1' := Lib.hid (own_lower O1 szr)
        clear O1 G1 B1 OL R2
        go_wp2_with (at_builtin; refine wpList_append_own _ rfl _ _ 24 rfl w.heap.size 25 i1 (.slice none 0 0) 1 24 Try.underlying24 hi1 hy0 hy1 hy2 rfl (by decide) _ _ _ rfl (M1.out.out.alloc _) ⟨w1.heap.size, 0, none⟩ 1 1 [.slice (some ⟨g1, 0, none⟩) W d2] rfl rfl (cell_one_new _ _ _) (by intro u hu; simp at hu; subst hu; rfl) (by unfold maxLen; omega) (by omega) (by simp; omega) ?_)
        intro v2 w2 O2 G2 _
        have X2 := (M1.out.below ((Below.refl _ _).alloc (Nat.le_refl _) _)).push O2 G2 (own_below O1'.out ((Below.refl _ _).alloc (Nat.le_refl _) _)) A1.out
        have X2 := Lib.hid (X2.congr (R' := Z) (fun i hi => by
          by_cases hik : i = k
          · subst hik; rw [put_at]
          · rw [put_lt _ _ _ (by omega)]))
        have Y2 := Lib.hid ((B1'.out.alloc (by omega) (.cells #[.slice (some ⟨g1, 0, none⟩) W d2] 25)).grown G2 (by simp; omega) (by intro q hq; have := M1.out.out.lt q hq; omega))
        clear O2 G2
        go_wp2_with fail
        go_roundw
        case rel => exact ⟨k + 1, _, _, by go_num, by omega, X2, Y2⟩
        case measure => simp [intOf]; omega
      · obtain rfl : k = n := by omega
        obtain ⟨g, cap, e, HT⟩ := HM.out.mat hn1
        simp only [Value.slice.injEq, true_and] at e
        obtain ⟨rfl, rfl⟩ := e
        have HT : Hid (Mat wr w.heap.size wr.heap.size g k W bs ks (tabM Z)) := Lib.hid (by unfold tabM; exact HT)
        have c0' : wr.cell? ⟨b, off, none⟩ = some (.slice X0 W k0) := (HB.out.cell (p := ⟨b, off, none⟩) (show b < w.heap.size by omega)).trans c0.out
        go_wp2_with (go_at_call 29; refine (red_len g k _ W W w.heap.size l bs ks (tabM Z) hl.out _ HT.out NM.out hn1 (by omega) (by omega) (Nat.le_refl _)).mono ?_; rintro e w' ⟨A9, c9, rfl, hb9⟩)
        go_ret
        exact ⟨by rw [R.out]; rfl, HB.out.trans hb9⟩

/-- the reference's copy, for the walk -/
def Cpy (w w' : World) (n W : Nat) (Z : Nat → List Int) (b off : Nat) (h0 : Value) (e : Ending) : Prop :=
  ∃ g cap bs ks, e = .returned (.slice (some ⟨g, 0, none⟩) n cap) ∧ Hid (Mat w' w.heap.size w'.heap.size g n W bs ks (tabM Z)) ∧ Below w.heap.size w w' ∧ w'.cell? ⟨b, off, none⟩ = some h0
theorem cpy_any (B b off n c W : Nat) (Z : Nat → List Int) (h0 : Value) (w : World) (h : RdT w B (some ⟨b, off, none⟩) n Z) (hB : B ≤ w.heap.size) (hb : b < B) (hn1 : 0 < n) (hn2 : n ≤ 40) (hW : ∀ j, j < n → (Z j).length = W) (hW1 : 0 < W) (hW2 : W ≤ 40) (hc : w.cell? ⟨b, off, none⟩ = some h0) :
    Calls Try.prog 34 #[.slice (some ⟨b, off, none⟩) n c] w fun e w' => Cpy w w' n W Z b off h0 e :=
  (l1Copy_any B _ n c W Z w h hB hn1 hn2 hW hW1 hW2).mono fun e w' ⟨v, bs, ks, he, hM, hBl⟩ => by
    obtain ⟨g, cap, rfl, HT⟩ := hM.mat hn1
    exact ⟨g, cap, bs, ks, he, Lib.hid (by unfold tabM; exact HT), hBl, (hBl.cell (p := ⟨b, off, none⟩) (show b < w.heap.size by omega)).trans hc⟩
end Go.Proofs.Ytkpbaaigopheeaa
