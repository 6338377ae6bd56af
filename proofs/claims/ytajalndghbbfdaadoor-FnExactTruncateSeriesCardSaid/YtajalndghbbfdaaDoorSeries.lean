/- The contracts of the small functions on series: comparisons and marks of the laws, the unit series of the program and of the reference. -/
import Derived.Test.YtajalndghbbfdaaDoorMark
import Derived.Test.YtajalndghbbfdaaDoorCount
import Derived.Test.YtajalndghbbfdaaDoorNum
namespace Go.Proofs.YtajalndghbbfdaaDoor
open Go.RowKit Go.PlainNum

theorem Rd.alloc {w : World} {n : Nat} {A : Option Addr} {zs : List Int} (h : Rd w w.heap.size A n zs) (o : Obj) : Rd (w.alloc o) (w.alloc o).heap.size A n zs :=
  (h.below ((Below.refl _ _).alloc (Nat.le_refl _) o) (Nat.le_refl _)).mono (by simp)

set_option maxRecDepth 100000 in
set_option maxHeartbeats 1000000 in
theorem eqSeries_eq (o one : Int) (A C : Option Addr) (n c d : Nat) (zs : List Int) (w : World) (h : Rd w w.heap.size A n zs) (h' : Rd w w.heap.size C n zs) (hn : (n : Int) ≤ 2000000) :
    Calls Tryd.prog 10 #[.agg #[.int .i64 o, .int .i64 one, .slice A n c], .agg #[.int .i64 o, .int .i64 one, .slice C n d]] w fun e w' => e = .returned (.bool true) ∧ Below w.heap.size w w' := by
  have H := Lib.hid h
  have H' := Lib.hid h'
  clear h h'
  go_enter Tryd.func10, Tryd.ntmps10
  go_wp2_with fail
  refine (eqIntS_any _ _ _ _ _ _ zs zs _ ((H.out.alloc _).alloc _) ((H'.out.alloc _).alloc _) hn).mono ?_
  rintro e w1 ⟨rfl, B1⟩
  have t : decide (zs = zs) = true := by simp
  go_wp2_with fail
  go_ret
  exact ⟨rfl, (((Below.refl _ _).alloc (Nat.le_refl _) _).alloc (by simp) _).trans (B1.mono (by simp; omega))⟩

set_option maxRecDepth 100000 in
set_option maxHeartbeats 1000000 in
theorem markSeries_any (base : Nat) (o one : Int) (A : Option Addr) (n cap : Nat) (zs : List Int) (k : Int) (w : World) (h : w.ownsRow base 3 1 (.slice A n cap) n (zs.map (Value.int .i64))) (hn : (n : Int) ≤ 4000000) (hk : 0 ≤ k) (hk' : k ≤ 100000000) :
    Calls Tryd.prog 11 #[.agg #[.int .i64 o, .int .i64 one, .slice A n cap], .int .i64 k] w fun e w' => e = .returned (.int .i64 (k + n)) ∧ w'.ownsRow base 3 1 (.slice A n cap) n ((iota k n).map (Value.int .i64)) ∧ w.grownBy w' (Value.slice A n cap).ownBlock := by
  have H := Lib.hid h
  clear h
  go_enter Tryd.func11, Tryd.ntmps11
  go_wp2_with fail
  refine (markIntS_any base _ _ _ zs k _ (H.out.alloc _) hn hk hk').mono ?_
  rintro e w1 ⟨rfl, O1, G1⟩
  go_wp2_with fail
  go_ret
  exact ⟨rfl, O1, (World.grownBy_alloc _ _ _).trans G1⟩

set_option maxRecDepth 100000 in
set_option maxHeartbeats 1000000 in
theorem heldSeries_any (o one : Int) (A : Option Addr) (n cap : Nat) (k : Int) (w : World) (h : Rd w w.heap.size A n (iota k n)) (hn : (n : Int) ≤ 4000000) (hk : 0 ≤ k) (hk' : k ≤ 100000000) :
    Calls Tryd.prog 12 #[.agg #[.int .i64 o, .int .i64 one, .slice A n cap], .int .i64 k] w fun e w' => e = .returned (.int .i64 (k + n)) ∧ Below w.heap.size w w' := by
  have H := Lib.hid h
  clear h
  go_enter Tryd.func12, Tryd.ntmps12
  go_wp2_with fail
  refine (heldIntS_any _ _ _ _ k _ (H.out.alloc _) hn hk hk').mono ?_
  rintro e w1 ⟨rfl, rfl⟩
  have t : decide (k + (n : Int) < 0) = false := decide_eq_false (by omega)
  go_wp2_with fail
  go_ret
  exact ⟨rfl, (Below.refl _ _).alloc (Nat.le_refl _) _⟩

/-- a series that a call has made: its order, its number for the empty tree, its terms in memory of the call's own -/
def Ser (o one : Int) (zs : List Int) (w : World) (e : Ending) (w' : World) : Prop :=
  ∃ A cap, e = .returned (.agg #[.int .i64 o, .int .i64 one, .slice A zs.length cap]) ∧ w'.ownsRow w.heap.size 3 1 (.slice A zs.length cap) zs.length (zs.map (Value.int .i64)) ∧ Below w.heap.size w w'

theorem own_base {w : World} {b b' : Nat} {e : TypeId} {size n : Nat} {v : Value} {xs : List Value} (h : w.ownsRow b e size v n xs) (hb : b' ≤ b) : w.ownsRow b' e size v n xs := by
  refine ⟨h.1, ?_⟩
  rcases h.2 with h2 | ⟨g, cap, cur, hv, hg, r⟩
  · exact Or.inl h2
  · exact Or.inr ⟨g, cap, cur, hv, by omega, r⟩
theorem ser_mk {o one : Int} {zs : List Int} {w w' : World} {A : Option Addr} {n cap : Nat} (hl : zs.length = n) (h : w'.ownsRow w.heap.size 3 1 (.slice A n cap) n (zs.map (Value.int .i64))) (hb : Below w.heap.size w w') :
    Ser o one zs w (.returned (.agg #[.int .i64 o, .int .i64 one, .slice A n cap])) w' := by
  subst hl
  exact ⟨A, cap, rfl, h, hb⟩
/-- a row stays owned while three cells below it are written -/
theorem own_three {w : World} {b s n : Nat} {e : TypeId} {v x y z : Value} {xs : List Value} (h : w.ownsRow b e 1 v n xs) (hs : s < b) :
    (((w.setCell ⟨s, 0, none⟩ x).setCell ⟨s, 1, none⟩ y).setCell ⟨s, 2, none⟩ z).ownsRow b e 1 v n xs :=
  ownsRow_setCell_below (ownsRow_setCell_below (ownsRow_setCell_below h (a := ⟨s, 0, none⟩) hs x) (a := ⟨s, 1, none⟩) hs y) (a := ⟨s, 2, none⟩) hs z
theorem bel_three {a w : World} {B s : Nat} {x y z : Value} (h : Below B a w) (hs : B ≤ s) :
    Below B a (((w.setCell ⟨s, 0, none⟩ x).setCell ⟨s, 1, none⟩ y).setCell ⟨s, 2, none⟩ z) :=
  ((h.setCell (p := ⟨s, 0, none⟩) hs x).setCell (p := ⟨s, 1, none⟩) hs y).setCell (p := ⟨s, 2, none⟩) hs z

theorem isOrder_any (n : Int) (w : World) :
    Calls Tryd.prog 25 #[.int .i64 n] w fun e w' => e = .returned (.bool (decide (0 ≤ n ∧ n ≤ 6))) ∧ w = w' := by
  by_cases h1 : 0 ≤ n
  · by_cases h2 : n ≤ 6
    · go_enter Tryd.func25, Tryd.ntmps25
      go_wp2
      go_ret
      exact ⟨by simp [h1, h2], rfl⟩
    · go_enter Tryd.func25, Tryd.ntmps25
      go_wp2
      go_ret
      exact ⟨by simp [h2], rfl⟩
  · go_enter Tryd.func25, Tryd.ntmps25
    go_wp2
    go_ret
    exact ⟨by simp; omega, rfl⟩
theorem isOrder_eq (n : Int) (r : Bool) (h : decide (0 ≤ n ∧ n ≤ 6) = r) (w : World) :
    Calls Tryd.prog 25 #[.int .i64 n] w fun e w' => e = .returned (.bool r) ∧ w = w' := by
  subst h
  exact isOrder_any n w
theorem l1In_eq (n a b : Int) (r : Bool) (h : decide (a ≤ n ∧ n ≤ b) = r) (w : World) :
    Calls Tryd.prog 23 #[.int .i64 n, .int .i64 a, .int .i64 b] w fun e w' => e = .returned (.bool r) ∧ w = w' := by
  subst h
  exact l1In_any n a b w

/-- how many terms a series of an order has -/
theorem ct_le (k : Nat) : ct k ≤ 37 := by unfold ct; split <;> omega
theorem ct_ge (k : Nat) : 0 ≤ ct k := by unfold ct; split <;> omega

set_option maxRecDepth 100000 in
set_option maxHeartbeats 1000000 in
theorem blank_any (k : Nat) (hk : k ≤ 6) (one : Int) (B : Nat) (w : World) (hc : CT B w) (hB : B ≤ w.heap.size) :
    Calls Tryd.prog 26 #[.int .i64 k, .int .i64 one] w (Ser k one (List.replicate (ct k).toNat 0) w) := by
  obtain ⟨i0, hi, hz0, hz1, hz2⟩ := info_parts infoInt
  have c1 := ct_le k
  have c0 := ct_ge k
  have HC := Lib.hid hc
  have hct := Lib.hid (ctn_yes k hk)
  go_enter Tryd.func26, Tryd.ntmps26
  go_wp2_with fail
  refine (count_any k B _ (HC.out.below ((Below.refl _ _).alloc (Nat.le_refl _) _) hB)).mono ?_
  rintro e w1 ⟨rfl, rfl⟩
  rw [hct.out]
  obtain ⟨m, hm⟩ := Int.eq_ofNat_of_zero_le c0
  rw [hm]
  have hm' : m ≤ 37 := by omega
  rw [show ((m : Int)).toNat = m by omega]
  go_wp2_with (at_make; refine wpList_make_full _ rfl _ _ 22 rfl (w.heap.size + 1) 3 i0 (.int .i64 0) 1 Tryd.underlying22 hi hz0 hz1 _ _ _ _ m rfl rfl rfl rfl (by rw [hz2]; omega) (by unfold maxLen; omega) (by simp) ?_)
  intro w1 hown hg
  have b0 : w1.heap[w.heap.size]? = some (.cells #[.int .i64 0, .int .i64 0, .slice none 0 0] 24 (0, 0)) := (hg.block _ (by simp) (by simp)).trans (heap_alloc_new w _)
  have cc0 : w1.cell? ⟨w.heap.size, 0, none⟩ = some (.int .i64 0) := by rw [cell_of_row w1 _ 0 _ _ _ b0]; rfl
  have cc1 : w1.cell? ⟨w.heap.size, 1, none⟩ = some (.int .i64 0) := by rw [cell_of_row w1 _ 1 _ _ _ b0]; rfl
  have cc2 : w1.cell? ⟨w.heap.size, 2, none⟩ = some (.slice none 0 0) := by rw [cell_of_row w1 _ 2 _ _ _ b0]; rfl
  have ff0 : w1.frozen? ⟨w.heap.size, 0, none⟩ = false := frozen_of_row w1 _ 0 _ _ b0
  have ff1 : w1.frozen? ⟨w.heap.size, 1, none⟩ = false := frozen_of_row w1 _ 1 _ _ b0
  have ff2 : w1.frozen? ⟨w.heap.size, 2, none⟩ = false := frozen_of_row w1 _ 2 _ _ b0
  have B1 : Below w.heap.size w w1 := ((Below.refl _ _).alloc (Nat.le_refl _) _).grown hg (by simp) (by intro k hk; cases hk)
  have O1 := Lib.hid hown
  clear hg b0 hown
  go_wp2_with fail
  refine bodyPost_ret (v := .agg #[.int .i64 k, .int .i64 one, .slice (some ⟨w.heap.size + 1, 0, none⟩) m m]) (by simp [results, Tryd.results26, go_sem, cc0, cc1, cc2]) rfl ?_
  have e : (ct k).toNat = m := by omega
  rw [e]
  refine ser_mk (by simp) ?_ (bel_three B1 (Nat.le_refl _))
  have := own_three O1.out (x := .int .i64 k) (y := .int .i64 one) (z := .slice (some ⟨w.heap.size + 1, 0, none⟩) m m) (Nat.lt_succ_self w.heap.size)
  exact own_base (by simpa [toList_madeCells_one, Value.cells] using this) (Nat.le_succ _)

/-- what UnitSeries gives: its order, its number for the empty tree, its terms -/
def unitO (n : Int) : Int := if 0 ≤ n ∧ n ≤ 6 then n else 0
def unitE (n : Int) : Int := if 0 ≤ n ∧ n ≤ 6 then 1 else 0
def unitT (n : Int) : List Int := if 0 ≤ n ∧ n ≤ 6 then List.replicate (ct n.toNat).toNat 0 else []
theorem unitT_len (n : Int) : (unitT n).length ≤ 37 := by
  unfold unitT
  split
  · have := ct_le n.toNat; simp; omega
  · simp
attribute [irreducible] unitO unitE unitT

theorem Ser.lift {o one : Int} {zs : List Int} {w0 w : World} {e : Ending} {w' : World} (h : Ser o one zs w e w') (hb : Below w0.heap.size w0 w) : Ser o one zs w0 e w' := by
  obtain ⟨A, cap, he, O, B⟩ := h
  exact ⟨A, cap, he, own_base O hb.size, hb.trans (B.mono hb.size)⟩

set_option maxRecDepth 100000 in
set_option maxHeartbeats 1000000 in
theorem unit_any (n : Int) (B : Nat) (w : World) (hc : CT B w) (hB : B ≤ w.heap.size) :
    Calls Tryd.prog 9 #[.int .i64 n] w (Ser (unitO n) (unitE n) (unitT n) w) := by
  have HC := Lib.hid hc
  by_cases h : 0 ≤ n ∧ n ≤ 6
  · have e1 : unitO n = n := by unfold unitO; rw [if_pos h]
    have e2 : unitE n = 1 := by unfold unitE; rw [if_pos h]
    have e3 : unitT n = List.replicate (ct n.toNat).toNat 0 := by unfold unitT; rw [if_pos h]
    rw [e1, e2, e3]
    have hd := Lib.hid (decide_eq_true h)
    obtain ⟨k, rfl⟩ := Int.eq_ofNat_of_zero_le h.1
    have hk : k ≤ 6 := by omega
    clear e1 e2 e3 h hc
    rw [show ((k : Int)).toNat = k by omega]
    go_enter Tryd.func9, Tryd.ntmps9
    go_wp2_with (go_at_call 25; refine (isOrder_eq _ _ hd.out _).mono ?_; rintro e w' ⟨rfl, rfl⟩)
    refine (blank_any k hk 1 B _ (HC.out.below ((Below.refl _ _).alloc (Nat.le_refl _) _) hB) (by simp; omega)).mono ?_
    rintro e w1 ⟨A, cap, rfl, O1, B1⟩
    have b0 : w1.heap[w.heap.size]? = some (.cells #[.int .i64 0, .int .i64 0, .slice none 0 0] 24 (0, 0)) := (B1.block _ (by simp)).trans (heap_alloc_new w _)
    have cc0 : w1.cell? ⟨w.heap.size, 0, none⟩ = some (.int .i64 0) := by rw [cell_of_row w1 _ 0 _ _ _ b0]; rfl
    have cc1 : w1.cell? ⟨w.heap.size, 1, none⟩ = some (.int .i64 0) := by rw [cell_of_row w1 _ 1 _ _ _ b0]; rfl
    have cc2 : w1.cell? ⟨w.heap.size, 2, none⟩ = some (.slice none 0 0) := by rw [cell_of_row w1 _ 2 _ _ _ b0]; rfl
    have ff0 : w1.frozen? ⟨w.heap.size, 0, none⟩ = false := frozen_of_row w1 _ 0 _ _ b0
    have ff1 : w1.frozen? ⟨w.heap.size, 1, none⟩ = false := frozen_of_row w1 _ 1 _ _ b0
    have ff2 : w1.frozen? ⟨w.heap.size, 2, none⟩ = false := frozen_of_row w1 _ 2 _ _ b0
    have B2 : Below w.heap.size w w1 := ((Below.refl _ _).alloc (Nat.le_refl _) _).trans (B1.mono (by simp))
    rw [List.length_replicate] at O1 ⊢
    have O1 := Lib.hid O1
    clear B1 b0
    go_wp2_with fail
    refine bodyPost_ret (v := .agg #[.int .i64 k, .int .i64 1, .slice A (ct k).toNat cap]) (by simp [results, Tryd.results9, go_sem, cc0, cc1, cc2]) rfl ?_
    refine ser_mk (by simp) ?_ (bel_three B2 (Nat.le_refl _))
    have O2 := own_three (s := w.heap.size) O1.out (x := .int .i64 k) (y := .int .i64 1) (z := .slice A (ct k).toNat cap) (by simp)
    exact own_base O2 (by simp)
  · have e1 : unitO n = 0 := by unfold unitO; rw [if_neg h]
    have e2 : unitE n = 0 := by unfold unitE; rw [if_neg h]
    have e3 : unitT n = [] := by unfold unitT; rw [if_neg h]
    rw [e1, e2, e3]
    have hd := Lib.hid (decide_eq_false h)
    go_enter Tryd.func9, Tryd.ntmps9
    go_wp2_with (go_at_call 25; refine (isOrder_eq _ _ hd.out _).mono ?_; rintro e w' ⟨rfl, rfl⟩)
    refine bodyPost_ret (v := .agg #[.int .i64 0, .int .i64 0, .slice none 0 0]) (by simp [results, Tryd.results9, go_sem]) rfl ?_
    exact ser_mk (n := 0) rfl (World.ownsRow_nil _ _ _ _) ((Below.refl _ _).alloc (Nat.le_refl _) _)

theorem Below.step {w w1 : World} (o : Obj) (h : Below (w.alloc o).heap.size (w.alloc o) w1) : Below w.heap.size w w1 := ((Below.refl _ _).alloc (Nat.le_refl _) o).trans (h.mono (by simp))

/-- a struct of three cells in a block, read and written -/
structure Three (w : World) (s : Nat) (t : TypeId) (x y z : Value) : Prop where
  blk : w.heap[s]? = some (.cells #[x, y, z] t (0, 0))
theorem Three.c0 {w : World} {s : Nat} {t : TypeId} {x y z : Value} (h : Three w s t x y z) : w.cell? ⟨s, 0, none⟩ = some x := by rw [cell_of_row w s 0 _ _ _ h.blk]; rfl
theorem Three.c1 {w : World} {s : Nat} {t : TypeId} {x y z : Value} (h : Three w s t x y z) : w.cell? ⟨s, 1, none⟩ = some y := by rw [cell_of_row w s 1 _ _ _ h.blk]; rfl
theorem Three.c2 {w : World} {s : Nat} {t : TypeId} {x y z : Value} (h : Three w s t x y z) : w.cell? ⟨s, 2, none⟩ = some z := by rw [cell_of_row w s 2 _ _ _ h.blk]; rfl
theorem Three.f {w : World} {s : Nat} {t : TypeId} {x y z : Value} (h : Three w s t x y z) (j : Nat) : w.frozen? ⟨s, j, none⟩ = false := frozen_of_row w s j _ _ h.blk
theorem Three.new (w : World) (t : TypeId) (x y z : Value) : Three (w.alloc (.cells #[x, y, z] t)) w.heap.size t x y z := ⟨heap_alloc_new w _⟩
theorem Three.below {w w' : World} {B s : Nat} {t : TypeId} {x y z : Value} (h : Three w s t x y z) (hb : Below B w w') (hs : s < B) : Three w' s t x y z := ⟨(hb.block s hs).trans h.blk⟩
theorem Three.grown {w w' : World} {s : Nat} {t : TypeId} {x y z : Value} {row : Option Nat} (h : Three w s t x y z) (hg : w.grownBy w' row) (hs : some s ≠ row) : Three w' s t x y z := ⟨(hg.block s (lt_of_block h.blk) hs).trans h.blk⟩

set_option maxRecDepth 100000 in
set_option maxHeartbeats 1000000 in
theorem l4Zero_any (k : Nat) (hk : k ≤ 6) (w : World) :
    Calls Tryd.prog 24 #[.int .i64 k] w (Ser k 0 (List.replicate (ct k).toNat 0) w) := by
  obtain ⟨i0, hi, hz0, hz1, hz2⟩ := info_parts infoInt
  have c1 := ct_le k
  have c0 := ct_ge k
  have hct := Lib.hid (ctn_yes k hk)
  go_enter Tryd.func24, Tryd.ntmps24
  go_wp2_with fail
  refine (scount_any k _).mono ?_
  rintro e w1 ⟨rfl, B1⟩
  rw [hct.out]
  obtain ⟨m, hm⟩ := Int.eq_ofNat_of_zero_le c0
  rw [hm]
  have hm' : m ≤ 37 := by omega
  have T1 := (Three.new w _ _ _ _).below B1 (by simp)
  have hs := B1.size
  have hs : w.heap.size + 1 ≤ w1.heap.size := by simpa using hs
  have B1 := Below.step _ B1
  go_wp2_with (at_make; refine wpList_make_full _ rfl _ _ 22 rfl (w.heap.size + 1) 3 i0 (.int .i64 0) 1 Tryd.underlying22 hi hz0 hz1 _ _ _ _ m rfl rfl rfl rfl (by rw [hz2]; omega) (by unfold maxLen; omega) hs ?_)
  intro w2 hown hg
  have T2 := T1.grown hg (by simp)
  have cc0 := T2.c0
  have cc1 := T2.c1
  have cc2 := T2.c2
  have ff0 := T2.f 0
  have ff1 := T2.f 1
  have ff2 := T2.f 2
  have B2 : Below w.heap.size w w2 := B1.grown hg (by omega) (by intro k hk; cases hk)
  have O1 := Lib.hid hown
  clear hg T1 T2 B1 hown
  go_wp2_with fail
  refine bodyPost_ret (v := .agg #[.int .i64 k, .int .i64 0, .slice (some ⟨w1.heap.size, 0, none⟩) m m]) (by simp [results, Tryd.results24, go_sem, cc0, cc1, cc2]) rfl ?_
  have e : (ct k).toNat = m := by omega
  rw [e]
  refine ser_mk (by simp) ?_ (bel_three B2 (Nat.le_refl _))
  have := own_three O1.out (x := .int .i64 k) (y := .int .i64 0) (z := .slice (some ⟨w1.heap.size, 0, none⟩) m m) (Nat.lt_succ_self w.heap.size)
  exact own_base (by simpa [toList_madeCells_one, Value.cells] using this) (Nat.le_succ _)

set_option maxRecDepth 100000 in
set_option maxHeartbeats 1000000 in
theorem sunit_any (n : Int) (w : World) :
    Calls Tryd.prog 8 #[.int .i64 n] w (Ser (unitO n) (unitE n) (unitT n) w) := by
  by_cases h : 0 ≤ n ∧ n ≤ 6
  · have e1 : unitO n = n := by unfold unitO; rw [if_pos h]
    have e2 : unitE n = 1 := by unfold unitE; rw [if_pos h]
    have e3 : unitT n = List.replicate (ct n.toNat).toNat 0 := by unfold unitT; rw [if_pos h]
    rw [e1, e2, e3]
    have hd := Lib.hid (decide_eq_true h)
    obtain ⟨k, rfl⟩ := Int.eq_ofNat_of_zero_le h.1
    have hk : k ≤ 6 := by omega
    clear e1 e2 e3 h
    rw [show ((k : Int)).toNat = k by omega]
    go_enter Tryd.func8, Tryd.ntmps8
    go_wp2_with (go_at_call 23; refine (l1In_eq _ _ _ _ hd.out _).mono ?_; rintro e w' ⟨rfl, rfl⟩)
    refine (l4Zero_any k hk _).mono ?_
    rintro e w1 ⟨A, cap, rfl, O1, B1⟩
    rw [List.length_replicate] at O1 ⊢
    have T1 := (Three.new w _ _ _ _).below B1 (by simp)
    have hs := B1.size
    have hs : w.heap.size + 1 ≤ w1.heap.size := by simpa using hs
    have B1 := Below.step _ B1
    have O1 := Lib.hid O1
    have cc0 := T1.c0
    have cc1 := T1.c1
    have cc2 := T1.c2
    have ff0 := T1.f 0
    have ff1 := T1.f 1
    have ff2 := T1.f 2
    have hs0 : w.heap.size < w1.heap.size := by omega
    clear T1
    go_wp2_with fail
    refine bodyPost_ret (v := .agg #[.int .i64 k, .int .i64 1, .slice A (ct k).toNat cap]) (by simp [results, Tryd.results8, go_sem, cc0, cc1, cc2, hs0]) rfl ?_
    have b3 := bel_three (x := .int .i64 k) (y := .int .i64 1) (z := .slice A (ct k).toNat cap) B1 (Nat.le_refl _)
    refine ser_mk (by simp) ?_ (b3.alloc b3.size _)
    have O2 := own_three (s := w.heap.size) O1.out (x := .int .i64 k) (y := .int .i64 1) (z := .slice A (ct k).toNat cap) (by simp)
    exact own_base (O2.alloc _) (by simp)
  · have e1 : unitO n = 0 := by unfold unitO; rw [if_neg h]
    have e2 : unitE n = 0 := by unfold unitE; rw [if_neg h]
    have e3 : unitT n = [] := by unfold unitT; rw [if_neg h]
    rw [e1, e2, e3]
    have hd := Lib.hid (decide_eq_false h)
    go_enter Tryd.func8, Tryd.ntmps8
    go_wp2_with (go_at_call 23; refine (l1In_eq _ _ _ _ hd.out _).mono ?_; rintro e w' ⟨rfl, rfl⟩)
    refine bodyPost_ret (v := .agg #[.int .i64 0, .int .i64 0, .slice none 0 0]) (by simp [results, Tryd.results8, go_sem]) rfl ?_
    exact ser_mk (n := 0) rfl (World.ownsRow_nil _ _ _ _) ((Below.refl _ _).alloc (Nat.le_refl _) _)
end Go.Proofs.YtajalndghbbfdaaDoor
