/- The contracts of the draws: a cursor over the bytes of a code. -/
import Derived.Test.YtkpbaaigopheeaaInts
import Derived.Test.YtkpbaaigopheeaaNum
import Derived.Laws.Bits128
import Derived.Maps.AppendAt
namespace Go.Proofs.Ytkpbaaigopheeaa
open Go.RowKit Go.PlainNum

theorem i64_and255 (n : Int) : bits .and .i64 n 255 = n % 256 := by
  have h255 : (BitVec.ofInt 64 255).toNat = 2 ^ 8 - 1 := by decide
  have key : (BitVec.ofInt 64 n &&& BitVec.ofInt 64 255).toNat = (n % ((2 ^ 64 : Nat) : Int)).toNat % 2 ^ 8 := by
    rw [BitVec.toNat_and, BitVec.toNat_ofInt, h255, Nat.and_two_pow_sub_one_eq_mod]
  show IntKind.i64.wrap ((BitVec.ofInt 64 n &&& BitVec.ofInt 64 255).toNat : Nat) = n % 256
  rw [key, IntKind.wrap_i64]
  omega

/-- a slice of n bytes lies below block B -/
def RdB (w : World) (B : Nat) (A : Option Addr) (n : Nat) : Prop :=
  0 < n → ∃ b off, A = some ⟨b, off, none⟩ ∧ b < B ∧ ∀ j, j < n → ∃ x : Int, 0 ≤ x ∧ x ≤ 255 ∧ w.cell? ⟨b, off + j, none⟩ = some (.int .u8 x)

/-- a cursor in block G -/
def Cur (w : World) (G : Nat) : Prop :=
  ∃ A n cap i h, w.heap[G]? = some (.cells #[.slice A n cap, .int .i64 (i : Nat), .int .i64 h] 50 (0, 0)) ∧ RdB w G A n ∧ i ≤ n ∧ (n : Int) ≤ 1000000000000

/-- what a draw leaves: an integer of this kind, the cursor; nothing that was there but the cursor has turned -/
def Dr (w : World) (G : Nat) (p : Int → Prop) (e : Ending) (w' : World) : Prop := ∃ r, e = .returned (.int .i64 r) ∧ p r ∧ Cur w' G ∧ w.grownBy w' (some G)

theorem RdB.grown {w w' : World} {G n : Nat} {A : Option Addr} (h : RdB w G A n) (hg : w.grownBy w' (some G)) : RdB w' G A n := by
  intro hn
  obtain ⟨b, off, e, hb, hc⟩ := h hn
  refine ⟨b, off, e, hb, fun j hj => ?_⟩
  obtain ⟨x, h0, h1, hx⟩ := hc j hj
  exact ⟨x, h0, h1, hg.cell hx (fun e => by simp at e; omega)⟩

theorem gb_set {w w1 : World} {G : Nat} (h : w.grownBy w1 (some G)) (j : Nat) (u : Value) : w.grownBy (w1.setCell ⟨G, j, none⟩ u) (some G) :=
  h.trans ⟨rfl, rfl, rfl, by simp, fun k _ hk => heap_setCell_other w1 ⟨G, j, none⟩ k u (fun e => hk (by simp [e]))⟩
theorem gb_drewN {w w1 : World} {row : Option Nat} (h : w.grownBy w1 row) (n : Nat) : w.grownBy (w1.drewN n) row := ⟨h.os, h.tape, h.output, h.size, h.block⟩

theorem cur_one {w : World} {G T : Nat} {s x y : Value} (hG : w.heap[G]? = some (.cells #[s, x, y] T (0, 0))) (u : Value) :
    (w.setCell ⟨G, 2, none⟩ u).heap[G]? = some (.cells #[s, x, u] T (0, 0)) := by
  have := heap_setCell_same w G 2 #[s, x, y] T u hG
  simpa using this
theorem cur_two {w : World} {G T : Nat} {s x y : Value} (hG : w.heap[G]? = some (.cells #[s, x, y] T (0, 0))) (u v : Value) :
    ((w.setCell ⟨G, 2, none⟩ u).setCell ⟨G, 1, none⟩ v).heap[G]? = some (.cells #[s, v, u] T (0, 0)) := by
  have := heap_setCell_same (w.setCell ⟨G, 2, none⟩ u) G 1 #[s, x, u] T v (cur_one hG u)
  simpa using this

theorem dr_one {w : World} {G n cap i a : Nat} {A : Option Addr} {h h' r : Int} (hG : w.heap[G]? = some (.cells #[.slice A n cap, .int .i64 (i : Nat), .int .i64 h] 50 (0, 0))) (hR : RdB w G A n) (hi : i ≤ n) (hn : (n : Int) ≤ 1000000000000)
    (hr : 0 ≤ r ∧ r ≤ 255) : Dr w G (fun r => 0 ≤ r ∧ r ≤ 255) (.returned (.int .i64 r)) ((w.setCell ⟨G, 2, none⟩ (.int .i64 h')).drewN a) := by
  have g : w.grownBy ((w.setCell ⟨G, 2, none⟩ (.int .i64 h')).drewN a) (some G) := gb_drewN (gb_set (World.grownBy.refl w _) 2 _) a
  exact ⟨r, rfl, hr, ⟨A, n, cap, i, h', cur_one hG _, hR.grown g, hi, hn⟩, g⟩
theorem dr_two {w : World} {G n cap i a : Nat} {A : Option Addr} {h h' r : Int} (hG : w.heap[G]? = some (.cells #[.slice A n cap, .int .i64 (i : Nat), .int .i64 h] 50 (0, 0))) (hR : RdB w G A n) (hi : i < n) (hn : (n : Int) ≤ 1000000000000)
    (hr : 0 ≤ r ∧ r ≤ 255) : Dr w G (fun r => 0 ≤ r ∧ r ≤ 255) (.returned (.int .i64 r)) (((w.setCell ⟨G, 2, none⟩ (.int .i64 h')).setCell ⟨G, 1, none⟩ (.int .i64 ((i : Int) + 1))).drewN a) := by
  have g : w.grownBy (((w.setCell ⟨G, 2, none⟩ (.int .i64 h')).setCell ⟨G, 1, none⟩ (.int .i64 ((i : Int) + 1))).drewN a) (some G) := gb_drewN (gb_set (gb_set (World.grownBy.refl w _) 2 _) 1 _) a
  exact ⟨r, rfl, hr, ⟨A, n, cap, i + 1, h', cur_two hG _ _, hR.grown g, by omega, hn⟩, g⟩

set_option maxRecDepth 100000 in
set_option maxHeartbeats 1000000 in
theorem byte_any (G : Nat) (w : World) (hc : Cur w G) :
    Calls Try.prog 36 #[.pointer (some ⟨G, 0, none⟩)] w (Dr w G (fun r => 0 ≤ r ∧ r ≤ 255)) := by
  obtain ⟨A, n, cap, i, h, hG, hR, hi, hn⟩ := hc
  have hlt := lt_of_block hG
  have c0 : w.cell? ⟨G, 0, none⟩ = some (.slice A n cap) := by rw [cell_of_row w G 0 _ _ _ hG]; rfl
  have c1 : w.cell? ⟨G, 1, none⟩ = some (.int .i64 (i : Nat)) := by rw [cell_of_row w G 1 _ _ _ hG]; rfl
  have c2 : w.cell? ⟨G, 2, none⟩ = some (.int .i64 h) := by rw [cell_of_row w G 2 _ _ _ hG]; rfl
  have f1 : w.frozen? ⟨G, 1, none⟩ = false := frozen_of_row w G 1 _ _ hG
  have f2 : w.frozen? ⟨G, 2, none⟩ = false := frozen_of_row w G 2 _ _ hG
  have hG := Lib.hid hG
  by_cases hin : i < n
  · obtain ⟨b, off, rfl, hb, hx⟩ := hR (by omega)
    have HR := Lib.hid hR
    obtain ⟨x, hx0, hx1, cx⟩ := hx i hin
    have t1 : decide ((i : Int) < n) = true := decide_eq_true (by omega)
    clear hx hR
    go_enter Try.func36, Try.ntmps36
    go_wp2_with fail
    go_quiet (fail)
    go_wp2_with fail
    go_quiet (fail)
    go_wp2_with fail
    go_quiet (fail)
    go_wp2_with fail
    go_ret
    refine dr_two hG.out HR.out hin hn ?_
    rw [i64_and255]
    omega
  · have t1 : decide ((i : Int) < n) = false := decide_eq_false (by omega)
    go_enter Try.func36, Try.ntmps36
    go_wp2_with fail
    go_quiet (fail)
    go_wp2_with fail
    go_quiet (fail)
    go_wp2_with fail
    go_ret
    try simp only [World.drewN_drewN]
    refine dr_one hG.out hR hi hn ?_
    rw [i64_and255]
    omega

theorem mod_in (a n : Int) (_h0 : 0 ≤ a) (h1 : 0 < n) : 0 ≤ a % n ∧ a % n < n := ⟨Int.emod_nonneg _ (by omega), Int.emod_lt_of_pos _ h1⟩

set_option maxRecDepth 100000 in
set_option maxHeartbeats 1000000 in
theorem below_any (G : Nat) (n : Int) (w : World) (C0 : Cur w G) (h0 : 0 < n) (hm : n ≤ 1000000271) :
    Calls Try.prog 24 #[.pointer (some ⟨G, 0, none⟩), .int .i64 n] w (Dr w G (fun r => 0 ≤ r ∧ r < n)) := by
  have t0 : decide (n ≤ 0) = false := decide_eq_false (by omega)
  by_cases hs : n ≤ 256
  · have t1 : decide (n ≤ 256) = true := decide_eq_true hs
    have tz : (n == 0) = false := by rw [beq_eq_false_iff_ne]; omega
    go_enter Try.func24, Try.ntmps24
    go_wp2_with fail
    refine (byte_any G _ C0).mono ?_
    rintro e w1 ⟨r1, rfl, ⟨a1, b1⟩, C1, g1⟩
    have M := Lib.hid (mod_in r1 n a1 h0)
    go_wp2_with fail
    go_ret
    exact ⟨_, rfl, M.out, C1, g1⟩
  · have t1 : decide (n ≤ 256) = false := decide_eq_false hs
    have tz : (n == 0) = false := by rw [beq_eq_false_iff_ne]; omega
    go_enter Try.func24, Try.ntmps24
    go_wp2_with fail
    refine (byte_any G _ C0).mono ?_
    rintro e w1 ⟨r1, rfl, ⟨a1, b1⟩, C1, g1⟩
    go_wp2_with fail
    refine (byte_any G _ C1).mono ?_
    rintro e w2 ⟨r2, rfl, ⟨a2, b2⟩, C2, g2⟩
    go_wp2_with fail
    refine (byte_any G _ C2).mono ?_
    rintro e w3 ⟨r3, rfl, ⟨a3, b3⟩, C3, g3⟩
    go_wp2_with fail
    refine (byte_any G _ C3).mono ?_
    rintro e w4 ⟨r4, rfl, ⟨a4, b4⟩, C4, g4⟩
    have M := Lib.hid (mod_in (r1 * 16777216 + r2 * 65536 + r3 * 256 + r4) n (by omega) h0)
    go_wp2_with fail
    go_ret
    exact ⟨_, rfl, M.out, C4, ((g1.trans g2).trans g3).trans g4⟩

/-- what a draw of a bool leaves -/
def DrB (w : World) (G : Nat) (e : Ending) (w' : World) : Prop := ∃ b, e = .returned (.bool b) ∧ Cur w' G ∧ w.grownBy w' (some G)

theorem once_any (G : Nat) (n : Int) (w : World) (C0 : Cur w G) (h0 : 0 < n) (hm : n ≤ 1000000271) :
    Calls Try.prog 25 #[.pointer (some ⟨G, 0, none⟩), .int .i64 n] w (DrB w G) := by
  go_enter Try.func25, Try.ntmps25
  go_wp2_with fail
  refine (below_any G n _ C0 h0 hm).mono ?_
  rintro e w1 ⟨r1, rfl, ⟨a1, b1⟩, C1, g1⟩
  go_wp2_with fail
  go_ret
  exact ⟨_, rfl, C1, g1⟩

def IsNum (r : Int) : Prop := 0 ≤ r ∧ r < 1000000271

set_option maxRecDepth 100000 in
set_option maxHeartbeats 1000000 in
theorem num_any (G : Nat) (w : World) (C0 : Cur w G) :
    Calls Try.prog 37 #[.pointer (some ⟨G, 0, none⟩)] w (Dr w G IsNum) := by
  go_enter Try.func37, Try.ntmps37
  go_wp2_with fail
  refine (below_any G 8 _ C0 (by omega) (by omega)).mono ?_
  rintro e w1 ⟨r1, rfl, ⟨a1, b1⟩, C1, g1⟩
  by_cases k0 : r1 = 0
  · subst k0
    go_wp2_with fail
    go_ret
    exact ⟨_, rfl, ⟨by omega, by omega⟩, C1, g1⟩
  have u0 : (r1 == 0) = false := by rw [beq_eq_false_iff_ne]; omega
  by_cases k1 : r1 = 1
  · subst k1
    go_wp2_with fail
    go_ret
    exact ⟨_, rfl, ⟨by omega, by omega⟩, C1, g1⟩
  have u1 : (r1 == 1) = false := by rw [beq_eq_false_iff_ne]; omega
  by_cases k2 : r1 = 2
  · subst k2
    go_wp2_with (go_at_call 46; refine (sfraction_any _ _ _).mono ?_; rintro e w' ⟨rfl, rfl⟩)
    go_ret
    exact ⟨_, rfl, ⟨res_lo _, res_hi _⟩, C1, g1⟩
  have u2 : (r1 == 2) = false := by rw [beq_eq_false_iff_ne]; omega
  by_cases k3 : r1 = 3
  · subst k3
    go_wp2_with fail
    refine (below_any G 1000000271 _ C1 (by omega) (by omega)).mono ?_
    rintro e w2 ⟨r2, rfl, ⟨a2, b2⟩, C2, g2⟩
    go_wp2_with fail
    go_ret
    exact ⟨_, rfl, ⟨a2, b2⟩, C2, g1.trans g2⟩
  have u3 : (r1 == 3) = false := by rw [beq_eq_false_iff_ne]; omega
  go_wp2_with fail
  refine (below_any G 13 _ C1 (by omega) (by omega)).mono ?_
  rintro e w2 ⟨r2, rfl, ⟨a2, b2⟩, C2, g2⟩
  go_wp2_with fail
  refine (below_any G 6 _ C2 (by omega) (by omega)).mono ?_
  rintro e w3 ⟨r3, rfl, ⟨a3, b3⟩, C3, g3⟩
  go_wp2_with (go_at_call 46; refine (sfraction_any _ _ _).mono ?_; rintro e w' ⟨rfl, rfl⟩)
  go_ret
  exact ⟨_, rfl, ⟨res_lo _, res_hi _⟩, C3, (g1.trans g2).trans g3⟩

def IsInt (r : Int) : Prop := -9223372036854775808 ≤ r ∧ r ≤ 9223372036854775807

theorem Cur.grown {w w' : World} {G : Nat} (h : Cur w G) {o : Obj} (he : w' = w.alloc o) : Cur w' G := by
  subst he
  obtain ⟨A, n, cap, i, x, hG, hR, hi, hn⟩ := h
  have hlt := lt_of_block hG
  refine ⟨A, n, cap, i, x, (heap_alloc_old w o hlt).trans hG, ?_, hi, hn⟩
  exact hR.grown (World.grownBy_alloc w o (some G))

theorem rd_new (w : World) (cs : Array Value) (T : TypeId) (zs : List Int) (h : cs = (zs.map (Value.int .i64)).toArray) (n : Nat) (hn : zs.length = n) :
    Rd (w.alloc (.cells cs T)) (w.alloc (.cells cs T)).heap.size (some ⟨w.heap.size, 0, none⟩) n zs := by
  subst h
  refine ⟨hn, fun _ => ⟨w.heap.size, 0, rfl, by simp, fun j hj => ?_⟩⟩
  rw [cell_of_row _ w.heap.size (0 + j) _ T (0, 0) (heap_alloc_new w _)]
  have hj' : j < zs.length := by omega
  simp [List.getD, List.getElem?_eq_getElem hj']

/-- the integers that dInt picks from -/
def pickList : List Int := [-1, 0, 2, 3, 5, 6, 15, 1000000270, 1000000271, 1000000272, -1000000271, 9223372036854775807, -9223372036854775808, 1000000007, -7]
theorem pickList_int : ∀ z ∈ pickList, IsInt z := by
  intro z hz
  simp only [pickList, List.mem_cons, List.not_mem_nil, or_false] at hz
  unfold IsInt
  omega
theorem isInt_of_num {r : Int} (h : IsNum r) : IsInt r := by unfold IsNum at h; unfold IsInt; omega

theorem IsRow.rdB {w : World} {a : Option Addr} {len cap : Nat} {zs : List Int} (h : IsRow .u8 w a len cap zs) : RdB w w.heap.size a len := by
  rcases h with ⟨rfl, rfl, rfl, rfl⟩ | ⟨x, rfl, hl, hm, hz, hcell, hwz⟩
  · exact fun h => absurd h (by omega)
  · intro hn
    obtain ⟨b, off, spot⟩ := x
    have hc := hcell 0 (by omega)
    have hspot : spot = none := by simpa [Addr.add] using World.cell?_spot hc
    subst hspot
    refine ⟨b, off, rfl, by simpa [Addr.add] using World.block_lt_of_cell? _ _ hc, fun j hj => ?_⟩
    have hj' : j < zs.length := by omega
    have := hcell j hj'
    rw [Addr.add_lit] at this
    have hw := hwz (zs.getD j 0) (by simp [List.getD, List.getElem?_eq_getElem hj'])
    have hb : 0 ≤ zs.getD j 0 ∧ zs.getD j 0 ≤ 255 := by simpa [Lit.wf, IntKind.min, IntKind.max, IntKind.signed, IntKind.bits] using hw
    exact ⟨_, hb.1, hb.2, this⟩

set_option maxRecDepth 100000 in
set_option maxHeartbeats 1000000 in
theorem new_any (A : Option Addr) (n cap : Nat) (w : World) (h : RdB w w.heap.size A n) (hn : (n : Int) ≤ 1000000000) :
    Calls Try.prog 22 #[.slice A n cap] w fun e w' => e = .returned (.pointer (some ⟨w.heap.size, 0, none⟩)) ∧ Cur w' w.heap.size ∧ Below w.heap.size w w' := by
  have H := Lib.hid h
  clear h
  go_enter Try.func22, Try.ntmps22
  go_wp2_with fail
  go_loop [3, 4] (fun x i => ∃ (k : Nat) (h : Int), x = .int .i64 h ∧ i = .int .i64 k ∧ k ≤ n) (fun _ i => n - (intOf i).toNat)
  case atStart => exact ⟨0, _, rfl, rfl, Nat.zero_le _⟩
  case round =>
    obtain ⟨k, x, rfl, rfl, hk⟩ := hrel
    by_cases hlt : k < n ∧ k < 4000
    · obtain ⟨hlt, h4⟩ := hlt
      have t1 : decide ((k : Int) < n) = true := decide_eq_true (by omega)
      have t2 : decide ((k : Int) < 4000) = true := decide_eq_true (by omega)
      obtain ⟨b, off, rfl, hb, hc⟩ := H.out (by omega)
      obtain ⟨y, y0, y1, cy⟩ := hc k hlt
      clear hc
      go_wp2_with fail
      go_round
      case rel => exact ⟨k + 1, _, rfl, by go_num, by omega⟩
      case measure => simp [intOf]; omega
    · by_cases h1 : k < n
      · have t1 : decide ((k : Int) < n) = true := decide_eq_true (by omega)
        have t2 : decide ((k : Int) < 4000) = false := decide_eq_false (by omega)
        go_wp2_with fail
        go_ret
        exact ⟨rfl, ⟨A, n, cap, 0, x, heap_alloc_new w _, fun hn => by
          obtain ⟨b, off, e, hb, hc⟩ := H.out hn
          exact ⟨b, off, e, hb, fun j hj => by
            obtain ⟨y, h0, h1, hy⟩ := hc j hj
            exact ⟨y, h0, h1, (World.grownBy_alloc w _ none).cell hy (by simp)⟩⟩, Nat.zero_le _, by omega⟩, (Below.refl _ _).alloc (Nat.le_refl _) _⟩
      · have t1 : decide ((k : Int) < n) = false := decide_eq_false (by omega)
        go_wp2_with fail
        go_ret
        exact ⟨rfl, ⟨A, n, cap, 0, x, heap_alloc_new w _, fun hn => by
          obtain ⟨b, off, e, hb, hc⟩ := H.out hn
          exact ⟨b, off, e, hb, fun j hj => by
            obtain ⟨y, h0, h1, hy⟩ := hc j hj
            exact ⟨y, h0, h1, (World.grownBy_alloc w _ none).cell hy (by simp)⟩⟩, Nat.zero_le _, by omega⟩, (Below.refl _ _).alloc (Nat.le_refl _) _⟩

/-- what DrawIntegers leaves -/
def Dr3 (w : World) (e : Ending) (w' : World) : Prop := ∃ a b c, e = .returned (.tuple #[.int .i64 a, .int .i64 b, .int .i64 c]) ∧ IsInt a ∧ IsInt b ∧ IsInt c ∧ Below w.heap.size w w'

theorem big_any (A : Option Addr) (n cap : Nat) (w : World) (r : Bool) (hr : decide ((n : Int) > 1048576) = r) :
    Calls Try.prog 6 #[.slice A n cap] w fun e w' => e = .returned (.bool r) ∧ w = w' := by
  go_enter Try.func6, Try.ntmps6
  go_wp2_with fail
  go_ret
  exact ⟨rfl, rfl⟩

end Go.Proofs.Ytkpbaaigopheeaa
