/- The contracts of the copy and of the size of a series that a law is given. -/
import Derived.Test.YtajalndghbbfdaaDoorSeries
namespace Go.Proofs.YtajalndghbbfdaaDoor
open Go.RowKit Go.PlainNum

set_option maxRecDepth 100000 in
set_option maxHeartbeats 1000000 in
theorem toSeries_any (o u : Int) (A : Option Addr) (n c : Nat) (zs : List Int) (w : World) (h : Rd w w.heap.size A n zs) (hn : (n : Int) ≤ 2000000) :
    Calls Tryd.prog 15 #[.agg #[.int .i64 o, .int .i64 u, .slice A n c]] w (Ser o u zs w) := by
  have H := Lib.hid h
  clear h
  go_enter Tryd.func15, Tryd.ntmps15
  go_wp2_with fail
  refine (toIntS_any _ _ _ zs _ (((H.out.alloc _).alloc _).alloc _) hn).mono ?_
  rintro e w1 ⟨rfl, O1, B1⟩
  have T1 : Three w1 (w.heap.size + 1) 24 (.int .i64 0) (.int .i64 0) (.slice none 0 0) := by
    have t := ((Three.new (w.alloc _) 24 (.int .i64 0) (.int .i64 0) (.slice none 0 0)).below ((Below.refl _ _).alloc (Nat.le_refl _) _) (by simp)).below B1 (by simp)
    simpa using t
  have T2 : Three w1 (w.heap.size + 2) 24 (.int .i64 o) (.int .i64 u) (.slice none 0 0) := by
    have t := (Three.new ((w.alloc _).alloc _) 24 (.int .i64 o) (.int .i64 u) (.slice none 0 0)).below B1 (by simp)
    simpa using t
  have hs : w.heap.size + 3 ≤ w1.heap.size := by have := B1.size; simpa using this
  have X1 : Below w.heap.size w w1 := (((((Below.refl _ _).alloc (Nat.le_refl _) _).alloc (by simp) _).alloc (by simp; omega) _).trans (B1.mono (by simp; omega)))
  have O1 := Lib.hid O1
  have c10 := T1.c0
  have c11 := T1.c1
  have c12 := T1.c2
  have f10 := T1.f 0
  have f11 := T1.f 1
  have f12 := T1.f 2
  have c20 := T2.c0
  have c21 := T2.c1
  have c22 := T2.c2
  have f22 := T2.f 2
  clear T1 T2 B1
  go_wp2_with fail
  refine bodyPost_ret (v := .agg #[.int .i64 o, .int .i64 u, .slice (some ⟨w.heap.size + 3, 0, none⟩) n n]) (by simp [results, Tryd.results15, go_sem, c10, c11, c12]) rfl ?_
  have hl := H.out.1
  have O2 : w1.ownsRow (w.heap.size + 3) 3 1 (.slice (some ⟨w.heap.size + 3, 0, none⟩) n n) n (zs.map (Value.int .i64)) := by
    have := O1.out
    unfold Ow at this
    rw [hl] at this
    simpa using this
  have O3 := own_three (s := w.heap.size + 1) (ownsRow_setCell_below O2 (a := ⟨w.heap.size + 2, 2, none⟩) (Nat.lt_succ_self _) (.slice (some ⟨w.heap.size + 3, 0, none⟩) n n)) (x := .int .i64 o) (y := .int .i64 u) (z := .slice (some ⟨w.heap.size + 3, 0, none⟩) n n) (by omega)
  exact ser_mk hl (own_base O3 (by omega)) (bel_three (X1.setCell (p := ⟨w.heap.size + 2, 2, none⟩) (Nat.le_add_right _ _) _) (Nat.le_succ _))

/-- the cells of two structs, and all that is older than `b` -/
def Kept (b : Nat) (v : World) (s t : Nat) (x0 x1 x2 y0 y1 y2 : Value) (w : World) : Prop :=
  (w.cell? ⟨s, 0, none⟩ = some x0 ∧ w.cell? ⟨s, 1, none⟩ = some x1 ∧ w.cell? ⟨s, 2, none⟩ = some x2 ∧ w.cell? ⟨t, 0, none⟩ = some y0 ∧ w.cell? ⟨t, 1, none⟩ = some y1 ∧ w.cell? ⟨t, 2, none⟩ = some y2) ∧ Below b v w ∧ b ≤ w.heap.size

theorem Kept.below {b : Nat} {v : World} {s t : Nat} {x0 x1 x2 y0 y1 y2 : Value} {w w' : World} (h : Kept b v s t x0 x1 x2 y0 y1 y2 w) (hb : Below w.heap.size w w') : Kept b v s t x0 x1 x2 y0 y1 y2 w' := by
  obtain ⟨⟨a0, a1, a2, b0, b1, b2⟩, hB, hs⟩ := h
  exact ⟨⟨(hb.cell (World.block_lt_of_cell? _ _ a0)).trans a0, (hb.cell (World.block_lt_of_cell? _ _ a1)).trans a1, (hb.cell (World.block_lt_of_cell? _ _ a2)).trans a2, (hb.cell (World.block_lt_of_cell? _ _ b0)).trans b0, (hb.cell (World.block_lt_of_cell? _ _ b1)).trans b1, (hb.cell (World.block_lt_of_cell? _ _ b2)).trans b2⟩, hB.trans (hb.mono hs), Nat.le_trans hs hb.size⟩

/-- the copy, the cells of two structs kept -/
theorem toSeries_keep (o u : Int) (A : Option Addr) (n c : Nat) (zs : List Int) (b : Nat) (v : World) (s t : Nat) (x0 x1 x2 y0 y1 y2 : Value) (w : World) (h : Rd w w.heap.size A n zs) (hn : (n : Int) ≤ 2000000) (hk : Kept b v s t x0 x1 x2 y0 y1 y2 w) :
    Calls Tryd.prog 15 #[.agg #[.int .i64 o, .int .i64 u, .slice A n c]] w fun e w' => (∃ C d, e = .returned (.agg #[.int .i64 o, .int .i64 u, .slice C n d]) ∧ Rd w' w'.heap.size C n zs) ∧ Below w.heap.size w w' ∧ Kept b v s t x0 x1 x2 y0 y1 y2 w' :=
  (toSeries_any o u A n c zs w h hn).mono fun e w' hs => by
    obtain ⟨C, d, rfl, hO, hb⟩ := hs
    have hl := h.1
    have hR := Ow.rd (w := w') (base := w.heap.size) (n := zs.length) (cap := d) (A := C) (zs := zs) hO
    rw [hl] at hR ⊢
    exact ⟨⟨C, d, rfl, hR⟩, hb, hk.below hb⟩

theorem eqSeries_keep (o u : Int) (A C : Option Addr) (n c d : Nat) (zs : List Int) (b : Nat) (v : World) (s t : Nat) (x0 x1 x2 y0 y1 y2 : Value) (w : World) (h : Rd w w.heap.size A n zs) (h' : Rd w w.heap.size C n zs) (hn : (n : Int) ≤ 2000000) (hk : Kept b v s t x0 x1 x2 y0 y1 y2 w) :
    Calls Tryd.prog 10 #[.agg #[.int .i64 o, .int .i64 u, .slice A n c], .agg #[.int .i64 o, .int .i64 u, .slice C n d]] w fun e w' => e = .returned (.bool true) ∧ Kept b v s t x0 x1 x2 y0 y1 y2 w' :=
  (eqSeries_eq o u A C n c d zs w h h' hn).mono fun _ _ h => ⟨h.1, hk.below h.2⟩

set_option maxRecDepth 100000 in
theorem szSeries_any (o u : Int) (A : Option Addr) (n c : Nat) (r : Int) (w : World) (hr : (if (n : Int) ≤ 1048576 then 1048576 - (n : Int) else -1) = r) (hn : (n : Int) ≤ 9223372036854775807) :
    Calls Tryd.prog 13 #[.agg #[.int .i64 o, .int .i64 u, .slice A n c], .int .i64 1048576] w fun e w' => e = .returned (.int .i64 r) ∧ Below w.heap.size w w' := by
  have H := Lib.hid hr
  clear hr
  by_cases h : (n : Int) ≤ 1048576
  · have t1 : decide ((1048576 : Int) - n < 0) = false := decide_eq_false (by omega)
    rw [if_pos h] at H
    go_enter Tryd.func13, Tryd.ntmps13
    go_wp2
    go_ret
    exact ⟨ret_int H.out, (Below.refl _ _).alloc (Nat.le_refl _) _⟩
  · have t1 : decide ((1048576 : Int) - n < 0) = true := decide_eq_true (by omega)
    rw [if_neg h] at H
    go_enter Tryd.func13, Tryd.ntmps13
    go_wp2
    go_ret
    exact ⟨ret_int H.out, (Below.refl _ _).alloc (Nat.le_refl _) _⟩
end Go.Proofs.YtajalndghbbfdaaDoor
