/- The laws' own functions on slices of slices of integers: sizes, copies, comparisons. -/
import Derived.Test.YtkpbaaigopheeaaBld
import Derived.Deep.RegionWith
namespace Go.Proofs.Ytkpbaaigopheeaa
open Go.RowKit Go.PlainNum

/-- headers of n rows, the first k laid -/
def hds (k n : Nat) (bs : Nat → Nat) (Z : Nat → List Int) : List Value := (List.range n).map fun j => if j < k then Value.slice (some ⟨bs j, 0, none⟩) (Z j).length (Z j).length else .slice none 0 0
theorem hds_len (k n : Nat) (bs : Nat → Nat) (Z : Nat → List Int) : (hds k n bs Z).length = n := by simp [hds]
theorem hds_zero (n : Nat) (bs : Nat → Nat) (Z : Nat → List Int) : hds 0 n bs Z = List.replicate n (.slice none 0 0) := by
  apply List.ext_getElem?
  intro j
  by_cases hj : j < n
  · simp [hds, hj]
  · simp [hds, hj]
theorem hds_get (k n : Nat) (bs : Nat → Nat) (Z : Nat → List Int) (j : Nat) (hj : j < n) (hk : j < k) : (hds k n bs Z)[j]? = some (.slice (some ⟨bs j, 0, none⟩) (Z j).length (Z j).length) := by simp [hds, hj, hk]
theorem hds_set (k n : Nat) (bs : Nat → Nat) (Z : Nat → List Int) (b : Nat) : (hds k n bs Z).set k (.slice (some ⟨b, 0, none⟩) (Z k).length (Z k).length) = hds (k + 1) n (put bs k b) Z := by
  apply List.ext_getElem?
  intro j
  by_cases hj : j < n
  · by_cases hk : j = k
    · subst hk
      rw [List.getElem?_set_self (by simp [hds, hj])]
      simp [hds, hj, put_at]
    · rw [List.getElem?_set_ne (by omega)]
      have e : put bs k b j = bs j := if_neg hk
      simp [hds, hj, show (j < k + 1) = (j < k) by simp; omega, e]
  · rw [List.getElem?_eq_none (by simp [hds]; omega), List.getElem?_eq_none (by simp [hds]; omega)]
attribute [irreducible] hds

/-- a table of the call's own, the first k rows laid -/
structure Tow (w : World) (base : Nat) (v : Value) (k n : Nat) (bs : Nat → Nat) (Z : Nat → List Int) : Prop where
  out : w.ownsRow base 25 1 v n (hds k n bs Z)
  row : ∀ i, i < k → w.ownsRow base 3 1 (.slice (some ⟨bs i, 0, none⟩) (Z i).length (Z i).length) (Z i).length ((Z i).map (Value.int .i64))
  apart : ∀ i i', i < k → i' < k → i ≠ i' → bs i ≠ bs i'

theorem Tow.below {w w' : World} {base k n : Nat} {v : Value} {bs : Nat → Nat} {Z : Nat → List Int} (h : Tow w base v k n bs Z) (hb : Below w.heap.size w w') : Tow w' base v k n bs Z :=
  ⟨own_below h.out hb, fun i hi => own_below (h.row i hi) hb, h.apart⟩
theorem tow_lt {w : World} {base W c b : Nat} {xs : List Value} (h : w.ownsRow base 3 1 (.slice (some ⟨b, 0, none⟩) W c) W xs) : base ≤ b ∧ b < w.heap.size := h.lt b rfl
theorem Tow.set {w w1 : World} {base k n : Nat} {g : Nat} {bs : Nat → Nat} {Z : Nat → List Int} (h : Tow w base (.slice (some ⟨g, 0, none⟩) n n) k n bs Z) (hk : k < n) (hb : Below w.heap.size w w1) {b : Nat}
    (hr : w1.ownsRow w.heap.size 3 1 (.slice (some ⟨b, 0, none⟩) (Z k).length (Z k).length) (Z k).length ((Z k).map (Value.int .i64))) (hbase : base ≤ w.heap.size) :
    Tow (w1.setCell ⟨g, k, none⟩ (.slice (some ⟨b, 0, none⟩) (Z k).length (Z k).length)) base (.slice (some ⟨g, 0, none⟩) n n) (k + 1) n (put bs k b) Z := by
  have h1 := h.below hb
  have S := h1.out.stored k (.slice (some ⟨b, 0, none⟩) (Z k).length (Z k).length)
  rw [hds_set] at S
  have keep : ∀ {b c : Nat} {r : List Int} {W : Nat}, w1.ownsRow base 3 1 (.slice (some ⟨b, 0, none⟩) W c) W (r.map (Value.int .i64)) → World.ownsRow (w1.setCell ⟨g, k, none⟩ _) base 3 1 (.slice (some ⟨b, 0, none⟩) W c) W (r.map (Value.int .i64)) := fun q =>
    own_grown q S.2 (fun g' hg => own_tags q h1.out (by decide) g' hg)
  refine ⟨S.1, fun i hi => ?_, fun i i' hi hi' hne => ?_⟩
  · by_cases hik : i = k
    · subst hik; rw [put_at]; exact keep (own_lower hr hbase)
    · rw [put_lt _ _ _ (by omega)]; exact keep (h1.row i (by omega))
  · have lo : ∀ i, i < k → bs i < w.heap.size := fun i hi => (tow_lt (h.row i hi)).2
    have hbb := (tow_lt hr).1
    by_cases hik : i = k
    · subst hik
      rw [put_at, put_lt _ _ _ (by omega)]
      have := lo i' (by omega); omega
    · rw [put_lt _ _ _ (show i < k by omega)]
      by_cases hik' : i' = k
      · subst hik'; rw [put_at]; have := lo i (by omega); omega
      · rw [put_lt _ _ _ (by omega)]; exact h.apart i i' (by omega) (by omega) hne
theorem Tow.rdt {w : World} {base n g : Nat} {bs : Nat → Nat} {Z : Nat → List Int} (h : Tow w base (.slice (some ⟨g, 0, none⟩) n n) n n bs Z) : RdT w w.heap.size (some ⟨g, 0, none⟩) n Z := by
  intro hn
  have hg := h.out.lt g rfl
  refine ⟨g, 0, rfl, hg.2, fun j hj => ⟨some ⟨bs j, 0, none⟩, (Z j).length, ?_, ?_⟩⟩
  · rw [Nat.zero_add, h.out.cellAt j (by omega), hds_get _ _ _ _ _ hj hj]
  · exact own_rd (h.row j hj)

/-- how many numbers the first k rows have -/
def tot (Z : Nat → List Int) : Nat → Nat
  | 0 => 0
  | k + 1 => tot Z k + (Z k).length
theorem tot_succ (Z : Nat → List Int) (k : Nat) : tot Z (k + 1) = tot Z k + (Z k).length := rfl
/-- what the allowance that is left tells -/
def SzP (n : Nat) (Z : Nat → List Int) (r : Int) : Prop := r = -1 ∨ (0 ≤ r ∧ n ≤ 1048576 ∧ (∀ j, j < n → (Z j).length ≤ 1048576) ∧ tot Z n ≤ 1048576)
/-- what is left of an allowance -/
def szv (l : Int) (n : Nat) : Int := if l - n < 0 then -1 else l - n
theorem szIntS_any (A : Option Addr) (n c : Nat) (l : Int) (w : World) (h0 : 0 ≤ l) (h1 : l ≤ 2000000) (hn : n ≤ maxLen) :
    Calls Try.prog 31 #[.slice A n c, .int .i64 l] w fun e w' => e = .returned (.int .i64 (szv l n)) ∧ w = w' := by
  have hn' : (n : Int) ≤ 9223372036854775807 := by unfold maxLen at hn; omega
  by_cases hl : l - n < 0
  · have R : szv l n = -1 := if_pos hl
    go_enter Try.func31, Try.ntmps31
    go_wp2_with fail
    go_ret
    exact ⟨by rw [R]; rfl, rfl⟩
  · have R : Hid (szv l n = l - n) := Lib.hid (if_neg hl)
    go_enter Try.func31, Try.ntmps31
    go_wp2_with fail
    go_ret
    exact ⟨by rw [R.out]; rfl, rfl⟩

set_option maxRecDepth 100000 in
set_option maxHeartbeats 4000000 in
theorem szIntSS_any (B : Nat) (A : Option Addr) (n c : Nat) (Z : Nat → List Int) (w : World) (h : RdT w B A n Z) (hn : n ≤ maxLen) (hL : ∀ j, j < n → (Z j).length ≤ maxLen) :
    Calls Try.prog 12 #[.slice A n c, .int .i64 1048576] w fun e w' => ∃ r, e = .returned (.int .i64 r) ∧ SzP n Z r ∧ w = w' := by
  have hn' : (n : Int) ≤ 9223372036854775807 := by unfold maxLen at hn; omega
  have H := Lib.hid h
  have HL := Lib.hid hL
  clear h hL hn
  by_cases hn2 : n ≤ 1048576
  case neg =>
    go_enter Try.func12, Try.ntmps12
    go_wp2_with fail
    go_ret
    exact ⟨_, rfl, Or.inl rfl, rfl⟩
  go_enter Try.func12, Try.ntmps12
  go_wp2_with fail
  go_loop [1, 5] (fun l i => ∃ (k : Nat) (x : Int), l = .int .i64 x ∧ i = .int .i64 k ∧ k ≤ n ∧ 0 ≤ x ∧ x ≤ 1048576 ∧ Hid ((∀ j, j < k → (Z j).length ≤ 1048576) ∧ x + tot Z k ≤ 1048576)) (fun _ i => n - (intOf i).toNat)
  case atStart => exact ⟨0, _, rfl, rfl, Nat.zero_le _, by omega, by omega, Lib.hid ⟨fun j hj => absurd hj (by omega), by show _ + ((0 : Nat) : Int) ≤ _; omega⟩⟩
  case round =>
    obtain ⟨k, x, rfl, rfl, hk, hx0, hx1, E⟩ := hrel
    by_cases hlt : k < n
    · obtain ⟨b, off, rfl, hb, hc⟩ := H.out (by omega)
      obtain ⟨X, kc, c1, -⟩ := hc k hlt
      have hm := HL.out k hlt
      obtain ⟨y, hy⟩ : ∃ y, (Z k).length = y := ⟨_, rfl⟩
      rw [hy] at c1 hm
      have hy := Lib.hid hy
      have cs := Lib.hid (fun w' => szIntS_any X y kc x w' hx0 (by omega) hm)
      clear hc hm
      by_cases hl : x - y < 0
      · have R : Hid (szv x y = -1) := Lib.hid (if_pos hl)
        rw [R.out] at cs
        go_wp2_with (go_at_call 31; refine (cs.out _).mono ?_; rintro e w' ⟨rfl, rfl⟩)
        go_ret
        exact ⟨_, rfl, Or.inl rfl, rfl⟩
      · have R : Hid (szv x y = x - y) := Lib.hid (if_neg hl)
        rw [R.out] at cs
        have t : decide (x - y < 0) = false := decide_eq_false hl
        go_wp2_with (go_at_call 31; refine (cs.out _).mono ?_; rintro e w' ⟨rfl, rfl⟩)
        go_round
        case rel => exact ⟨k + 1, x - y, rfl, by go_num, by omega, by omega, by omega, Lib.hid ⟨fun j hj => by
          rcases Nat.lt_or_ge j k with h1 | h1
          · exact E.out.1 j h1
          · obtain rfl : j = k := by omega
            rw [hy.out]; omega, by have := E.out.2; rw [tot_succ, hy.out]; omega⟩⟩
        case measure => simp [intOf]; omega
    · obtain rfl : k = n := by omega
      go_wp2_with fail
      go_ret
      exact ⟨x, rfl, Or.inr ⟨hx0, hn2, E.out.1, by have := E.out.2; omega⟩, rfl⟩

set_option maxRecDepth 100000 in
set_option maxHeartbeats 4000000 in
theorem toIntSS_any (A : Option Addr) (n c : Nat) (Z : Nat → List Int) (w : World) (h : RdT w w.heap.size A n Z) (hn : n ≤ 1048576) (hL : ∀ j, j < n → (Z j).length ≤ 1048576) :
    Calls Try.prog 14 #[.slice A n c] w fun e w' => e = .returned (.slice (some ⟨w.heap.size, 0, none⟩) n n) ∧ ∃ bs, Tow w' w.heap.size (.slice (some ⟨w.heap.size, 0, none⟩) n n) n n bs Z ∧ Below w.heap.size w w' := by
  obtain ⟨i1, hi1, hy0, hy1, hy2⟩ := info_parts infoRow
  have H := Lib.hid h
  have HL := Lib.hid hL
  clear h hL
  go_enter Try.func14, Try.ntmps14
  go_wp2_with (at_make; refine wpList_make_full _ rfl _ _ 24 rfl w.heap.size 25 i1 (.slice none 0 0) 1 Try.underlying24 hi1 hy0 hy1 _ _ _ _ n rfl rfl rfl rfl (by rw [hy2]; omega) (by unfold maxLen; omega) (Nat.le_refl _) ?_)
  intro w1 hown hg
  have B1 : Below w.heap.size w w1 := (Below.refl _ _).grown hg (Nat.le_refl _) (by intro k hk; cases hk)
  have O1 : w1.ownsRow w.heap.size 25 1 (.slice (some ⟨w.heap.size, 0, none⟩) n n) n (hds 0 n (fun _ => 0) Z) := by
    rw [hds_zero]
    simpa [toList_madeCells_one, Value.cells] using hown
  have HT := Lib.hid (show Tow w1 w.heap.size (.slice (some ⟨w.heap.size, 0, none⟩) n n) 0 n (fun _ => 0) Z from ⟨O1, fun i hi => absurd hi (by omega), fun i _ hi => absurd hi (by omega)⟩)
  have B1 := Lib.hid B1
  clear hown hg hi1 hy0 hy1 hy2 O1
  go_wp2_with fail
  go_loopw [4] (fun i wr => ∃ (k : Nat) (bs : Nat → Nat), i = .int .i64 k ∧ k ≤ n ∧ Hid (Tow wr w.heap.size (.slice (some ⟨w.heap.size, 0, none⟩) n n) k n bs Z) ∧ Hid (Below w.heap.size w wr))
    (fun i _ => n - (intOf i).toNat)
  case atStart => exact ⟨0, _, rfl, Nat.zero_le _, HT, B1⟩
  case round =>
    rename_i wr _
    obtain ⟨k, bs, rfl, hk, HM, HB⟩ := hrel
    by_cases hlt : k < n
    · obtain ⟨b, off, rfl, hb, hc⟩ := H.out (by omega)
      obtain ⟨X, kc, c1, H1⟩ := hc k hlt
      have d1 : wr.cell? ⟨b, off + k, none⟩ = some (.slice X (Z k).length kc) := (HB.out.cell (p := ⟨b, off + k, none⟩) hb).trans c1
      have szr : w.heap.size ≤ wr.heap.size := HB.out.size
      have hm := HL.out k hlt
      have H2 := (H1.below HB.out (Nat.le_refl _)).mono szr
      obtain ⟨y, hy⟩ : ∃ y, (Z k).length = y := ⟨_, rfl⟩
      have hB2 := HM.out.out
      have HS := Lib.hid (fun w' b (hb : Below wr.heap.size wr w') (hr : w'.ownsRow wr.heap.size 3 1 (.slice (some ⟨b, 0, none⟩) (Z k).length (Z k).length) (Z k).length ((Z k).map (Value.int .i64))) => (⟨HM.out.set hlt hb hr szr, (HB.out.trans (hb.mono szr)).setCell (p := ⟨w.heap.size, k, none⟩) (Nat.le_refl _) (.slice (some ⟨b, 0, none⟩) (Z k).length (Z k).length), (own_below HM.out.out hb).frozenAt k, by
        rw [(own_below HM.out.out hb).cellAt k (by omega), List.getElem?_eq_getElem (by rw [hds_len]; exact hlt)]
        exact ⟨_, rfl⟩⟩ : Tow (w'.setCell ⟨w.heap.size, k, none⟩ (.slice (some ⟨b, 0, none⟩) (Z k).length (Z k).length)) w.heap.size (.slice (some ⟨w.heap.size, 0, none⟩) n n) (k + 1) n (put bs k b) Z ∧ Below w.heap.size w (w'.setCell ⟨w.heap.size, k, none⟩ (.slice (some ⟨b, 0, none⟩) (Z k).length (Z k).length)) ∧ w'.frozen? ⟨w.heap.size, k, none⟩ = false ∧ ∃ u, w'.cell? ⟨w.heap.size, k, none⟩ = some u))
      rw [hy] at d1 H2 hm HS
      have H2 := Lib.hid H2
      have hy := Lib.hid hy
      clear c1 H1 hc hB2
      go_wp2_with fail
      refine (toIntS_any X y kc (Z k) _ H2.out (by omega)).mono ?_
      rintro e w2 ⟨rfl, O2, B2⟩
      have O2' : w2.ownsRow wr.heap.size 3 1 (.slice (some ⟨wr.heap.size, 0, none⟩) y y) y ((Z k).map (Value.int .i64)) := by have := O2; unfold Ow at this; rw [hy.out] at this; exact this
      obtain ⟨Y1, Y2, f2, u, c2⟩ := HS.out w2 wr.heap.size B2 O2'
      have Y1 := Lib.hid Y1
      have Y2 := Lib.hid Y2
      clear O2 O2' B2 HS
      go_wp2_with fail
      go_roundw
      case rel => exact ⟨k + 1, _, by go_num, by omega, Y1, Y2⟩
      case measure => simp [intOf]; omega
    · obtain rfl : k = n := by omega
      go_wp2_with fail
      go_ret
      exact ⟨rfl, bs, HM.out, HB.out⟩

set_option maxRecDepth 100000 in
set_option maxHeartbeats 4000000 in
theorem eqIntSS_any (A C : Option Addr) (n c d : Nat) (Z : Nat → List Int) (w : World) (h : RdT w w.heap.size A n Z) (h' : RdT w w.heap.size C n Z) (hn : n ≤ 1048576) (hL : ∀ j, j < n → (Z j).length ≤ 1048576) :
    Calls Try.prog 15 #[.slice A n c, .slice C n d] w fun e w' => e = .returned (.bool true) ∧ Below w.heap.size w w' := by
  have t0 : ((n : Int) != n) = false := by simp
  have H := Lib.hid h
  have H' := Lib.hid h'
  have HL := Lib.hid hL
  clear h h' hL
  go_enter Try.func15, Try.ntmps15
  go_wp2_with fail
  go_loopw [5] (fun i wr => ∃ k : Nat, i = .int .i64 k ∧ k ≤ n ∧ Hid (Below w.heap.size w wr)) (fun i _ => n - (intOf i).toNat)
  case atStart => exact ⟨0, rfl, Nat.zero_le _, Lib.hid (Below.refl _ _)⟩
  case round =>
    rename_i wr _
    obtain ⟨k, rfl, hk, HB⟩ := hrel
    by_cases hlt : k < n
    · obtain ⟨b, off, rfl, hb, hc⟩ := H.out (by omega)
      obtain ⟨b', off', rfl, hb', hc'⟩ := H'.out (by omega)
      obtain ⟨X, kc, c1, H1⟩ := hc k hlt
      obtain ⟨X', kc', c1', H1'⟩ := hc' k hlt
      have szr : w.heap.size ≤ wr.heap.size := HB.out.size
      have d1 : wr.cell? ⟨b, off + k, none⟩ = some (.slice X (Z k).length kc) := (HB.out.cell (p := ⟨b, off + k, none⟩) hb).trans c1
      have d1' : wr.cell? ⟨b', off' + k, none⟩ = some (.slice X' (Z k).length kc') := (HB.out.cell (p := ⟨b', off' + k, none⟩) hb').trans c1'
      have H2 := (H1.below HB.out (Nat.le_refl _)).mono szr
      have H2' := (H1'.below HB.out (Nat.le_refl _)).mono szr
      have hm := HL.out k hlt
      obtain ⟨zs, hzs⟩ : ∃ zs, Z k = zs := ⟨_, rfl⟩
      rw [hzs] at d1 d1' H2 H2' hm
      obtain ⟨y, hy⟩ : ∃ y, zs.length = y := ⟨_, rfl⟩
      rw [hy] at d1 d1' H2 H2' hm
      have CE := Lib.hid (fun a => (eqIntS_any X X' y y kc kc' zs zs (wr.drewN a) (H2.below (bel_drewN (Below.refl wr.heap.size wr) a) (Nat.le_refl _)) (H2'.below (bel_drewN (Below.refl wr.heap.size wr) a) (Nat.le_refl _)) (by omega)).mono fun e w' ⟨he, hb⟩ => (⟨by rw [he, decide_eq_true (rfl : zs = zs)], (bel_drewN (Below.refl wr.heap.size wr) a).trans hb⟩ : e = Ending.returned (.bool true) ∧ Below wr.heap.size wr w'))
      clear c1 c1' H1 H1' hc hc' H2 H2' hy hzs
      go_wp2_with fail
      go_region_with (go_at_call 18; refine (CE.out 1).mono ?_; rintro e w' ⟨rfl, hb2⟩)
      all_goals (
        have Y := Lib.hid (HB.out.trans (hb2.mono szr))
        go_wp2_with fail
        go_roundw)
      all_goals first | exact ⟨k + 1, by go_num, by omega, Y⟩ | (simp [intOf]; omega)
    · obtain rfl : k = n := by omega
      go_wp2_with fail
      go_ret
      exact ⟨rfl, HB.out⟩
end Go.Proofs.Ytkpbaaigopheeaa
