/- The walk of the law FnExactCanonicalLevels. -/
import Derived.Test.YtojcnncaccnpeaaCan
namespace Go.Proofs.Ytojcnncaccnpeaa.fnExactCanonicalLevels
open Go.RowKit Go.PlainNum Go.Proofs.Ytojcnncaccnpeaa
set_option linter.unusedVariables false

set_option maxRecDepth 100000 in
set_option maxHeartbeats 4000000 in
theorem walk (a0 : Option Addr) (len0 cap0 : Nat) (z0 : List Int) (w : World) (w0 : IsRow .i64 w a0 len0 cap0 z0) :
    Calls Try.prog 3 #[.slice a0 len0 cap0] w fun e w' => e = .returned (.bool true) ∧ Below w.heap.size w w' := by
  by_cases hn1 : len0 ≤ 1048576
  case neg =>
    have t0 : decide ((len0 : Int) > 1048576) = true := decide_eq_true (by omega)
    go_enter Try.func3, Try.ntmps3
    go_wp2_with fail
    go_ret
    exact ⟨rfl, Below.refl _ _⟩
  have t0 : decide ((len0 : Int) > 1048576) = false := decide_eq_false (by omega)
  have Q := w0.rd
  obtain ⟨zs, hzs⟩ : ∃ zs, zs = z0.take len0 := ⟨_, rfl⟩
  rw [← hzs] at Q
  have Q := Lib.hid Q
  clear hzs w0
  have hXl := canL_len zs
  obtain ⟨X, hX⟩ : ∃ X, canL zs = X := ⟨_, rfl⟩
  rw [hX] at hXl
  obtain ⟨L, hL⟩ : ∃ L, X.length = L := ⟨_, rfl⟩
  rw [hL] at hXl
  have cs := Lib.hid (fun (v : World) (A : Option Addr) (h : Rd v v.heap.size A len0 zs) => scan_any A len0 len0 zs X L hX hL v h (by omega))
  have ci := Lib.hid (fun (v : World) (A : Option Addr) (h : Rd v v.heap.size A len0 zs) => can_any A len0 len0 zs X L hX hL v h (by omega) (Nat.le_refl _))
  have tx : decide (X = X) = true := by simp
  have ty : decide (zs = zs) = true := by simp
  clear hX hL
  go_enter Try.func3, Try.ntmps3
  go_wp2_with fail
  refine (toIntS_any _ _ _ zs _ Q.out (by omega)).mono ?_
  rintro e w1 ⟨rfl, O1, B1⟩
  have X1 := Lib.hid B1
  have s1 := B1.size
  have O1 := Lib.hid (Q.out.1 ▸ O1.rd : Rd w1 w1.heap.size _ len0 zs)
  clear B1
  go_wp2_with fail
  refine (cs.out _ _ O1.out).mono ?_
  rintro e w2 ⟨A2, c2, rfl, O2, B2⟩
  have X2 := Lib.hid (X1.out.trans (B2.mono s1))
  have s2 := B2.size
  have R2 := Lib.hid (own_rd O2)
  clear O2 B2 O1
  go_wp2_with fail
  refine (toIntS_any _ _ _ zs _ ((Q.out.below X2.out (Nat.le_refl _)).mono X2.out.size) (by omega)).mono ?_
  rintro e w3 ⟨rfl, O3, B3⟩
  have X3 := Lib.hid (X2.out.trans (B3.mono X2.out.size))
  have s3 := B3.size
  have R3 := Lib.hid (R2.out.below B3 (Nat.le_refl _))
  have O3 : Hid (w3.ownsRow w2.heap.size 3 1 (.slice (some ⟨w2.heap.size, 0, none⟩) len0 len0) len0 (zs.map (Value.int .i64))) := Lib.hid (by have q := O3; unfold Ow at q; rw [Q.out.1] at q; exact q)
  have s23 : w2.heap.size < w3.heap.size := (O3.out.lt _ rfl).2
  clear B3 R2
  go_wp2_with fail
  refine (ci.out _ _ (own_rd O3.out)).mono ?_
  rintro e w4 ⟨A4, c4, rfl, O4, B4⟩
  have X4 := Lib.hid (X3.out.trans (B4.mono X3.out.size))
  have s4 := B4.size
  have R4 := Lib.hid (R3.out.below B4 (by omega))
  have P4 := Lib.hid (own_below O3.out B4)
  have O4 := Lib.hid O4
  clear B4 R3 O3
  go_wp2_with fail
  refine (eqIntS_any _ _ _ _ _ _ X X _ (own_rd O4.out) (R4.out.mono (by omega)) (by omega)).mono ?_
  rintro e w5 ⟨rfl, B5⟩
  have X5 := Lib.hid (X4.out.trans (B5.mono X4.out.size))
  have s5 := B5.size
  have R5 := Lib.hid (R4.out.below B5 (by omega))
  have P5 := Lib.hid (own_below P4.out B5)
  have O5 := Lib.hid (own_below O4.out B5)
  clear B5 R4 P4 O4
  go_wp2_with fail
  refine (toIntS_any _ _ _ zs _ ((Q.out.below X5.out (Nat.le_refl _)).mono X5.out.size) (by omega)).mono ?_
  rintro e w6 ⟨rfl, N6, B6⟩
  have X6 := Lib.hid (X5.out.trans (B6.mono X5.out.size))
  have s6 := B6.size
  have R6 := Lib.hid (R5.out.below B6 (by omega))
  have P6 := Lib.hid (own_below P5.out B6)
  have O6 := Lib.hid (own_below O5.out B6)
  have N6 := Lib.hid (Q.out.1 ▸ N6.rd : Rd w6 w6.heap.size _ len0 zs)
  clear B6 R5 P5 O5
  go_wp2_with fail
  refine (eqIntS_any _ _ _ _ _ _ zs zs _ (own_rd P6.out) N6.out (by omega)).mono ?_
  rintro e w7 ⟨rfl, B7⟩
  have X7 := Lib.hid (X6.out.trans (B7.mono X6.out.size))
  have s7 := B7.size
  have R7 := Lib.hid (R6.out.below B7 (by omega))
  have P7 := Lib.hid (own_below P6.out B7)
  have O7 := Lib.hid (own_below O6.out B7)
  clear B7 R6 P6 O6 N6
  go_wp2_with fail
  refine (markIntS_any w2.heap.size _ len0 len0 zs 1 _ P7.out (by omega) (by omega) (by omega)).mono ?_
  rintro e w8 ⟨rfl, -, G8⟩
  have X8 := Lib.hid (X7.out.grown G8 X7.out.size (fun g hg => by have := (P7.out.lt g hg).1; have := X2.out.size; omega))
  have s8 := G8.size
  have R8 := Lib.hid (R7.out.grown G8 (fun g hg => by have := (P7.out.lt g hg).1; omega))
  have O8 := Lib.hid (own_grown O7.out G8 (fun g hg => by have := (O7.out.lt g hg).1; simp only [Value.ownBlock]; intro e; have e := Option.some.inj e; omega))
  clear G8 R7 P7 O7
  have t3 : decide ((1 : Int) + len0 < 0) = false := decide_eq_false (by omega)
  go_wp2_with fail
  refine (eqIntS_any _ _ _ _ _ _ X X _ (own_rd O8.out) (R8.out.mono (by omega)) (by omega)).mono ?_
  rintro e w9 ⟨rfl, B9⟩
  have X9 := Lib.hid (X8.out.trans (B9.mono X8.out.size))
  have s9 := B9.size
  have R9 := Lib.hid (R8.out.below B9 (by omega))
  have O9 := Lib.hid (own_below O8.out B9)
  clear B9 R8 O8
  go_wp2_with fail
  refine (markIntS_any w3.heap.size A4 L c4 X 1 _ O9.out (by omega) (by omega) (by omega)).mono ?_
  rintro e w10 ⟨rfl, O10, G10⟩
  have X10 := Lib.hid (X9.out.grown G10 X9.out.size (fun g hg => by have := (O9.out.lt g hg).1; have := X3.out.size; omega))
  have s10 := G10.size
  have R10 := Lib.hid (R9.out.grown G10 (fun g hg => by have := (O9.out.lt g hg).1; omega))
  have O10 := Lib.hid O10
  clear G10 R9 O9
  go_wp2_with fail
  refine (heldIntS_any w10.heap.size A4 L c4 1 _ (own_rd O10.out) (by omega) (by omega) (by omega)).mono ?_
  rintro e w' ⟨rfl, rfl⟩
  have t4 : decide ((1 : Int) + L < 0) = false := decide_eq_false (by omega)
  go_wp2_with fail
  refine (toIntS_any _ _ _ zs _ ((Q.out.below X10.out (Nat.le_refl _)).mono X10.out.size) (by omega)).mono ?_
  rintro e w11 ⟨rfl, N11, B11⟩
  have X11 := Lib.hid (X10.out.trans (B11.mono X10.out.size))
  have s11 := B11.size
  have R11 := Lib.hid (R10.out.below B11 (by omega))
  have O11 := Lib.hid (own_below O10.out B11)
  have N11 := Lib.hid (Q.out.1 ▸ N11.rd : Rd w11 w11.heap.size _ len0 zs)
  clear B11 R10 O10
  go_wp2_with fail
  refine (ci.out _ _ N11.out).mono ?_
  rintro e w12 ⟨A12, c12, rfl, O12, B12⟩
  have X12 := Lib.hid (X11.out.trans (B12.mono X11.out.size))
  have s12 := B12.size
  have R12 := Lib.hid (R11.out.below B12 (by omega))
  have P12 := Lib.hid (own_below O11.out B12)
  have O12 := Lib.hid O12
  clear B12 R11 O11 N11
  go_wp2_with fail
  refine (eqIntS_any _ _ _ _ _ _ X X _ (own_rd O12.out) (R12.out.mono (by omega)) (by omega)).mono ?_
  rintro e w13 ⟨rfl, B13⟩
  have X13 := Lib.hid (X12.out.trans (B13.mono X12.out.size))
  have P13 := Lib.hid (own_below P12.out B13)
  clear B13
  go_wp2_with fail
  refine (heldIntS_any w13.heap.size A4 L c4 1 _ (own_rd P13.out) (by omega) (by omega) (by omega)).mono ?_
  rintro e w' ⟨rfl, rfl⟩
  go_wp2_with fail
  go_ret
  exact ⟨rfl, X13.out⟩
end Go.Proofs.Ytojcnncaccnpeaa.fnExactCanonicalLevels
