/- Slices of integers in memory: reading them, and the contracts of the laws' own small functions on them (copies, comparisons). -/
import Derived.Test.YtojcnncaccnpeaaProg
import Derived.WalkKit
import Derived.Lib.Hide
import Derived.WalkSpells
import Derived.WalkLawsBesides
import Derived.Deep.QuietTactic
import Derived.BigQuiet
namespace Go.Proofs.Ytojcnncaccnpeaa
open Go.RowKit

theorem bel_drewN {B : Nat} {a w : World} (h : Below B a w) (n : Nat) : Below B a (w.drewN n) := ⟨h.os, h.tape, h.output, h.size, h.block⟩

/-- a slice of n integers reads as zs, and lies below block B -/
def Rd (w : World) (B : Nat) (A : Option Addr) (n : Nat) (zs : List Int) : Prop :=
  zs.length = n ∧ (0 < n → ∃ b off, A = some ⟨b, off, none⟩ ∧ b < B ∧ ∀ j, j < n → w.cell? ⟨b, off + j, none⟩ = some (.int .i64 (zs.getD j 0)))

/-- what the row's reading gives of a slice of integers that came in -/
def IsRow (k : IntKind) (w : World) (a : Option Addr) (len cap : Nat) (zs : List Int) : Prop :=
  (a = none ∧ len = 0 ∧ cap = 0 ∧ zs = []) ∨
  ∃ x, a = some x ∧ len ≤ cap ∧ cap ≤ maxLen ∧ zs.length = cap ∧ (∀ i, i < zs.length → w.cell? (x.add i) = some (.int k (zs.getD i 0))) ∧ ∀ n ∈ zs, (Lit.int k n).wf = true

theorem IsRow.rd {w : World} {a : Option Addr} {len cap : Nat} {zs : List Int} (h : IsRow .i64 w a len cap zs) : Rd w w.heap.size a len (zs.take len) := by
  rcases h with ⟨rfl, rfl, rfl, rfl⟩ | ⟨x, rfl, hl, hm, hz, hcell, hwz⟩
  · exact ⟨rfl, fun h => absurd h (by omega)⟩
  · refine ⟨by simp; omega, fun hn => ?_⟩
    obtain ⟨b, off, spot⟩ := x
    have hc := hcell 0 (by omega)
    have hspot : spot = none := by simpa [Addr.add] using World.cell?_spot hc
    subst hspot
    refine ⟨b, off, rfl, by simpa [Addr.add] using World.block_lt_of_cell? _ _ hc, fun j hj => ?_⟩
    have := hcell j (by omega)
    rw [Addr.add_lit] at this
    rw [this]
    simp [List.getD, hj]

theorem Rd.below {w w' : World} {B C n : Nat} {A : Option Addr} {zs : List Int} (h : Rd w B A n zs) (hb : Below C w w') (hC : B ≤ C) : Rd w' B A n zs := by
  refine ⟨h.1, fun hn => ?_⟩
  obtain ⟨b, off, e, hB, hc⟩ := h.2 hn
  exact ⟨b, off, e, hB, fun j hj => (hb.cell (p := ⟨b, off + j, none⟩) (show b < C by omega)).trans (hc j hj)⟩
theorem Rd.mono {w : World} {B C n : Nat} {A : Option Addr} {zs : List Int} (h : Rd w B A n zs) (hC : B ≤ C) : Rd w C A n zs := by
  refine ⟨h.1, fun hn => ?_⟩
  obtain ⟨b, off, e, hB, hc⟩ := h.2 hn
  exact ⟨b, off, e, by omega, hc⟩

/-- a slice of the call's own that holds these integers -/
abbrev Ow (w : World) (base : Nat) (v : Value) (zs : List Int) : Prop := w.ownsRow base 3 1 v zs.length (zs.map (Value.int .i64))

theorem Ow.rd {w : World} {base n cap : Nat} {A : Option Addr} {zs : List Int} (h : Ow w base (.slice A n cap) zs) : Rd w w.heap.size A zs.length zs := by
  refine ⟨rfl, fun hn => ?_⟩
  obtain ⟨g, cap', rfl, hlt⟩ : ∃ g cap', A = some ⟨g, 0, none⟩ ∧ g < w.heap.size := by
    rcases h.2 with ⟨_, h0⟩ | ⟨g, cap', cur, hv, _, hg, _⟩
    · omega
    · simp only [Value.slice.injEq] at hv
      exact ⟨g, cap', hv.1, lt_of_block hg⟩
  refine ⟨g, 0, rfl, hlt, fun j hj => ?_⟩
  have := World.ownsRow.cells h (g := g) rfl j (.int .i64 (zs.getD j 0)) (by simp [List.getElem?_map, List.getD, List.getElem?_eq_getElem hj])
  simpa [Addr.add_lit] using this

theorem Ow.len {w : World} {base n cap : Nat} {A : Option Addr} {zs : List Int} (h : Ow w base (.slice A n cap) zs) : n = zs.length := by
  rcases h.2 with ⟨hv, h0⟩ | ⟨g, cap', cur, hv, _⟩
  · simp only [Value.slice.injEq] at hv; omega
  · simp only [Value.slice.injEq] at hv; omega

/-- what a copy of zs holds when k of n elements are copied -/
def half (zs : List Int) (k n : Nat) : List Int := (List.range n).map fun j => if j < k then zs.getD j 0 else 0
theorem half_len (zs : List Int) (k n : Nat) : (half zs k n).length = n := by simp [half]
theorem half_zero (zs : List Int) (n : Nat) : half zs 0 n = List.replicate n 0 := by
  apply List.ext_getElem?
  intro j
  by_cases hj : j < n
  · simp [half, hj]
  · simp [half, hj]
theorem half_full (zs : List Int) (n : Nat) (hn : zs.length = n) : half zs n n = zs := by
  apply List.ext_getElem?
  intro j
  by_cases hj : j < n
  · simp [half, hj, List.getElem?_eq_getElem (show j < zs.length by omega)]
  · simp [half, hj, List.getElem?_eq_none (show zs.length ≤ j by omega)]
theorem half_set (zs : List Int) (k n : Nat) : (half zs k n).set k (zs.getD k 0) = half zs (k + 1) n := by
  apply List.ext_getElem?
  intro j
  by_cases hj : j < n
  · by_cases hk : j = k
    · subst hk
      rw [List.getElem?_set_self (by simp [half, hj])]
      simp [half, hj]
    · rw [List.getElem?_set_ne (by omega)]
      simp [half, hj, show (j < k + 1) = (j < k) by simp; omega]
  · rw [List.getElem?_eq_none (by simp [half]; omega), List.getElem?_eq_none (by simp [half]; omega)]
attribute [irreducible] half

theorem infoInt : (Try.prog.info? 3).map (fun i => (i.zero, i.size, i.bytes)) = some (some (.int .i64 0), 1, 8) := by kernel_rfl

set_option maxRecDepth 100000 in
set_option maxHeartbeats 1000000 in
theorem toIntS_any (A : Option Addr) (n cap : Nat) (zs : List Int) (w : World) (h : Rd w w.heap.size A n zs) (hn : (n : Int) ≤ 2000000) :
    Calls Try.prog 5 #[.slice A n cap] w fun e w' => e = .returned (.slice (some ⟨w.heap.size, 0, none⟩) n n) ∧ Ow w' w.heap.size (.slice (some ⟨w.heap.size, 0, none⟩) n n) zs ∧ Below w.heap.size w w' := by
  obtain ⟨i0, hi, hz0, hz1, hz2⟩ := info_parts infoInt
  have hl := h.1
  go_enter Try.func5, Try.ntmps5
  go_wp2_with (at_make; refine wpList_make_full _ rfl _ _ 22 rfl w.heap.size 3 i0 (.int .i64 0) 1 Try.underlying22 hi hz0 hz1 _ _ _ _ n rfl rfl rfl rfl (by rw [hz2]; omega) (by unfold maxLen; omega) (Nat.le_refl _) ?_)
  intro w1 hown hg
  have B1 : Below w.heap.size w w1 := (Below.refl _ _).grown hg (Nat.le_refl _) (by intro k hk; cases hk)
  have O1 : w1.ownsRow w.heap.size 3 1 (.slice (some ⟨w.heap.size, 0, none⟩) n n) n ((half zs 0 n).map (Value.int .i64)) := by
    rw [half_zero]
    simpa [toList_madeCells_one, Value.cells] using hown
  clear hown hg hi hz0 hz1 hz2 hl
  go_wp2_with fail
  go_loopw [4] (fun i wr => ∃ k : Nat, i = .int .i64 k ∧ k ≤ n ∧ wr.ownsRow w.heap.size 3 1 (.slice (some ⟨w.heap.size, 0, none⟩) n n) n ((half zs k n).map (Value.int .i64)) ∧ Below w.heap.size w wr)
    (fun i _ => n - (intOf i).toNat)
  case atStart => exact ⟨0, rfl, Nat.zero_le _, O1, B1⟩
  case round =>
    obtain ⟨k, rfl, hk, O, B⟩ := hrel
    clear O1 B1
    by_cases hlt : k < n
    · obtain ⟨b, off, rfl, hb, hc⟩ := h.2 (by omega)
      have c1 := (B.cell (p := ⟨b, off + k, none⟩) hb).trans (hc k hlt)
      have O' := O.stored k (.int .i64 (zs.getD k 0))
      have c2 := O.cellAt k (by omega)
      have f2 := O.frozenAt k
      rw [List.getElem?_eq_getElem (by simp [half_len]; omega)] at c2
      obtain ⟨x, hx⟩ : ∃ x, ((half zs k n).map (Value.int .i64))[k]'(by simp [half_len]; omega) = x := ⟨_, rfl⟩
      rw [hx] at c2
      rw [← List.map_set, half_set] at O'
      obtain ⟨z, hz⟩ : ∃ z, zs.getD k 0 = z := ⟨_, rfl⟩
      rw [hz] at c1 O'
      have O1 := Lib.hid O'.1
      have B1 := B.setCell (p := ⟨w.heap.size, k, none⟩) (Nat.le_refl _) (.int .i64 z)
      clear O O' hx hz hc B h
      go_wp2_with fail
      go_roundw
      case rel => exact ⟨k + 1, by go_num, by omega, O1.out, B1⟩
      case measure => simp [intOf]; omega
    · obtain rfl : k = n := by omega
      rw [half_full zs k h.1] at O
      go_wp2_with fail
      go_ret
      exact ⟨rfl, by unfold Ow; rw [h.1]; exact O, B⟩

theorem getD_ext (xs ys : List Int) (hl : xs.length = ys.length) (h : ∀ j, j < xs.length → xs.getD j 0 = ys.getD j 0) : xs = ys := by
  apply List.ext_getElem hl
  intro j h1 h2
  have := h j h1
  simpa [List.getD, List.getElem?_eq_getElem h1, List.getElem?_eq_getElem h2] using this

set_option maxRecDepth 100000 in
set_option maxHeartbeats 1000000 in
theorem eqIntS_any (A C : Option Addr) (n m c d : Nat) (xs ys : List Int) (w : World) (h : Rd w w.heap.size A n xs) (h' : Rd w w.heap.size C m ys) (hn : (n : Int) ≤ 2000000) :
    Calls Try.prog 7 #[.slice A n c, .slice C m d] w fun e w' => e = .returned (.bool (decide (xs = ys))) ∧ Below w.heap.size w w' := by
  by_cases hnm : n = m
  · subst hnm
    have t0 : ((n : Int) != n) = false := by simp
    go_enter Try.func7, Try.ntmps7
    go_wp2_with fail
    go_loopw [5] (fun i wr => ∃ k : Nat, i = .int .i64 k ∧ k ≤ n ∧ Hid (∀ j, j < k → xs.getD j 0 = ys.getD j 0) ∧ Below w.heap.size w wr)
      (fun i _ => n - (intOf i).toNat)
    case atStart => exact ⟨0, rfl, Nat.zero_le _, Lib.hid (fun j hj => absurd hj (by omega)), Below.refl _ _⟩
    case round =>
      obtain ⟨k, rfl, hk, E, B⟩ := hrel
      by_cases hlt : k < n
      · obtain ⟨b, off, rfl, hb, hc⟩ := h.2 (by omega)
        obtain ⟨b', off', rfl, hb', hc'⟩ := h'.2 (by omega)
        have c1 := (B.cell (p := ⟨b, off + k, none⟩) hb).trans (hc k hlt)
        have c2 := (B.cell (p := ⟨b', off' + k, none⟩) hb').trans (hc' k hlt)
        obtain ⟨x, hx⟩ : ∃ x, xs.getD k 0 = x := ⟨_, rfl⟩
        obtain ⟨y, hy⟩ : ∃ y, ys.getD k 0 = y := ⟨_, rfl⟩
        rw [hx] at c1
        rw [hy] at c2
        have hx := Lib.hid hx
        have hy := Lib.hid hy
        have l1 := Lib.hid h.1
        have l2 := Lib.hid h'.1
        clear hc hc' h h'
        by_cases hxy : x = y
        · subst hxy
          have t1 : (x != x) = false := by simp
          go_wp2_with fail
          go_quiet (fail)
          go_wp2_with fail
          go_roundw
          case rel => exact ⟨k + 1, by go_num, by omega, Lib.hid (fun j hj => by
            rcases Nat.lt_or_ge j k with h1 | h1
            · exact E.out j h1
            · obtain rfl : j = k := by omega
              rw [hx.out, hy.out]), bel_drewN B _⟩
          case measure => simp [intOf]; omega
        · have t1 : (x != y) = true := by simpa using hxy
          have hne : decide (xs = ys) = false := decide_eq_false (fun e => hxy (by rw [← hx.out, ← hy.out, e]))
          go_wp2_with fail
          go_quiet (fail)
          go_wp2_with fail
          go_ret
          exact ⟨by rw [hne]; rfl, bel_drewN B _⟩
      · obtain rfl : k = n := by omega
        have hq : decide (xs = ys) = true := decide_eq_true (getD_ext xs ys (by rw [h.1, h'.1]) (fun j hj => E.out j (by rw [h.1] at hj; exact hj)))
        go_wp2_with fail
        go_ret
        exact ⟨by rw [hq]; rfl, B⟩
  · have t0 : ((n : Int) != m) = true := by simp; omega
    have hne : decide (xs = ys) = false := decide_eq_false (fun e => hnm (by rw [← h.1, ← h'.1, e]))
    go_enter Try.func7, Try.ntmps7
    go_wp2_with fail
    go_ret
    exact ⟨by rw [hne]; rfl, Below.refl _ _⟩
end Go.Proofs.Ytojcnncaccnpeaa
