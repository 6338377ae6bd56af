/- The walk of the law FnExactSolveSystem. -/
import Derived.Test.YtkpbaaigopheeaaSSol
import Derived.Test.YtkpbaaigopheeaaMarkSS
namespace Go.Proofs.Ytkpbaaigopheeaa.fnExactSolveSystem
open Go.RowKit Go.PlainNum Go.Proofs.Ytkpbaaigopheeaa
set_option linter.unusedVariables false

theorem solX_len (n : Nat) (Z : Nat → List Int) (zs : List Int) : (solX n Z zs).length ≤ 40 := by
  cases h : solB n Z zs
  · rw [solX_no h]; simp
  · have he : eqOk n Z zs = true := by
      cases h2 : eqOk n Z zs
      · rw [solB_no h2] at h; exact absurd h (by decide)
      · rfl
    obtain ⟨h1, _, _⟩ := eqOk_is he
    obtain ⟨hn, _, hq⟩ := sysOk_is h1
    have := (hq 0 hn).2.2.1
    unfold solX
    rw [if_pos h]
    simpa using this
/-- what SolveSystem leaves, for the walk -/
def SolQ (w w' : World) (X : List Int) (L : Nat) (b : Bool) (e : Ending) : Prop :=
  ∃ A c, e = .returned (.tuple #[.slice A L c, .bool b]) ∧ w'.ownsRow w.heap.size 3 1 (.slice A L c) L (X.map (Value.int .i64)) ∧ Below w.heap.size w w'

set_option maxRecDepth 100000 in
set_option maxHeartbeats 1000000 in
theorem walk (a0 : Option Addr) (len0 cap0 : Nat) (Z0 : Nat → List Int) (a1 : Option Addr) (len1 cap1 : Nat) (z1 : List Int) (w : World) (w0 : IsTab w a0 len0 Z0) (w1 : IsRow .i64 w a1 len1 cap1 z1) :
    Calls Try.prog 5 #[.slice a0 len0 cap0, .slice a1 len1 cap1] w fun e w' => e = .returned (.bool true) ∧ Below w.heap.size w w' := by
  obtain ⟨R, hn, hL⟩ := w0
  have R := Lib.hid R
  by_cases hn1 : len1 ≤ 1048576
  case neg =>
    have t0 : decide ((len1 : Int) > 1048576) = true := decide_eq_true (by omega)
    go_enter Try.func5, Try.ntmps5
    go_wp2_with fail
    go_ret
    exact ⟨rfl, Below.refl _ _⟩
  have t0 : decide ((len1 : Int) > 1048576) = false := decide_eq_false (by omega)
  have Q := w1.rd
  obtain ⟨zs, hzs⟩ : ∃ zs, zs = z1.take len1 := ⟨_, rfl⟩
  rw [← hzs] at Q
  have Q := Lib.hid Q
  clear hzs w1
  go_enter Try.func5, Try.ntmps5
  go_wp2_with fail
  refine (szIntSS_any _ _ _ _ Z0 _ R.out hn hL).mono ?_
  rintro e w0' ⟨r, rfl, hr, rfl⟩
  rcases hr with rfl | ⟨hr0, hn0, hL1, htot⟩
  · go_wp2_with fail
    go_ret
    exact ⟨rfl, Below.refl _ _⟩
  have t1 : decide (r < 0) = false := decide_eq_false (by omega)
  have hL1 := Lib.hid hL1
  have htot := Lib.hid htot
  have hL2 : Hid (∀ j, j < len0 → ((Z0 j).length : Int) ≤ 4000000) := Lib.hid (fun j hj => by have := hL1.out j hj; omega)
  have cs := fun (v : World) (c c' : Nat) (A A' : Option Addr) (h1 : RdT v v.heap.size A len0 Z0) (h2 : Rd v v.heap.size A' len1 zs) => (ssol_any v.heap.size A A' len0 c len1 c' Z0 zs v h1 h2 (Nat.le_refl _) hL2.out (by omega) (by omega)).mono fun e w' hP => (hP.out : SolQ v w' (solX len0 Z0 zs) (solX len0 Z0 zs).length (solB len0 Z0 zs) e)
  have ci := fun (v : World) (c c' : Nat) (A A' : Option Addr) (h1 : RdT v v.heap.size A len0 Z0) (h2 : Rd v v.heap.size A' len1 zs) => (sol_any v.heap.size A A' len0 c len1 c' Z0 zs v h1 h2 (Nat.le_refl _) hL2.out (by omega) (by omega)).mono fun e w' hP => (hP.out : SolQ v w' (solX len0 Z0 zs) (solX len0 Z0 zs).length (solB len0 Z0 zs) e)
  have hXl := solX_len len0 Z0 zs
  obtain ⟨X, hX⟩ : ∃ X, solX len0 Z0 zs = X := ⟨_, rfl⟩
  obtain ⟨b, hb⟩ : ∃ b, solB len0 Z0 zs = b := ⟨_, rfl⟩
  obtain ⟨L, hXL⟩ : ∃ L, (solX len0 Z0 zs).length = L := ⟨_, rfl⟩
  rw [hXL] at cs ci hXl
  rw [hX, hb] at cs ci
  have cs := Lib.hid cs
  have ci := Lib.hid ci
  obtain ⟨tt, htt⟩ : ∃ tt, tot Z0 len0 = tt := ⟨_, rfl⟩
  have htt' : tt ≤ 1048576 := by rw [← htt]; exact htot.out
  have htt := Lib.hid htt
  have tb : (b != b) = false := by simp
  have tx : decide (X = X) = true := by simp
  clear hL hX hb hXL
  go_wp2_with fail
  refine (toIntSS_any _ _ _ Z0 _ R.out hn0 hL1.out).mono ?_
  rintro e w1 ⟨rfl, bs1, T1, B1⟩
  have X1 := Lib.hid B1
  have T1 := Lib.hid T1
  have s1 := B1.size
  clear B1
  go_wp2_with fail
  refine (toIntS_any _ _ _ zs _ ((Q.out.below X1.out (Nat.le_refl _)).mono s1) (by omega)).mono ?_
  rintro e w2 ⟨rfl, O2, B2⟩
  have T1 := Lib.hid (T1.out.below B2)
  have X2 := Lib.hid (X1.out.trans (B2.mono s1))
  have s2 := B2.size
  have O2 := Lib.hid (Q.out.1 ▸ O2.rd : Rd w2 w2.heap.size _ len1 zs)
  clear B2
  go_wp2_with fail
  refine (cs.out _ _ _ _ _ T1.out.rdt O2.out).mono ?_
  rintro e w3 ⟨A3, c3, rfl, O3, B3⟩
  have X3 := Lib.hid (X2.out.trans (B3.mono (by omega)))
  have s3 := B3.size
  have R3 := Lib.hid (own_rd O3)
  clear O3 B3 T1 O2
  go_wp2_with fail
  refine (toIntSS_any _ _ _ Z0 _ ((R.out.below X3.out (Nat.le_refl _)).mono X3.out.size) hn0 hL1.out).mono ?_
  rintro e w4 ⟨rfl, bs4, T4, B4⟩
  have X4 := Lib.hid (X3.out.trans (B4.mono X3.out.size))
  have s4 := B4.size
  have R4 := Lib.hid (R3.out.below B4 (Nat.le_refl _))
  have hT4 := Lib.hid (fun i (hi : i < len0) => (tow_lt (T4.row i hi)).2)
  have T4 := Lib.hid T4
  clear B4 R3
  go_wp2_with fail
  refine (toIntS_any _ _ _ zs _ ((Q.out.below X4.out (Nat.le_refl _)).mono X4.out.size) (by omega)).mono ?_
  rintro e w5 ⟨rfl, O5, B5⟩
  have X5 := Lib.hid (X4.out.trans (B5.mono X4.out.size))
  have s5 := B5.size
  have R5 := Lib.hid (R4.out.below B5 (by omega))
  have T5 := Lib.hid (T4.out.below B5)
  have O5 : Hid (w5.ownsRow w4.heap.size 3 1 (.slice (some ⟨w4.heap.size, 0, none⟩) len1 len1) len1 (zs.map (Value.int .i64))) := Lib.hid (by have q := O5; unfold Ow at q; rw [Q.out.1] at q; exact q)
  have s45 : w4.heap.size < w5.heap.size := (O5.out.lt _ rfl).2
  clear B5 R4 T4
  go_wp2_with fail
  refine (ci.out _ _ _ _ _ T5.out.rdt (own_rd O5.out)).mono ?_
  rintro e w6 ⟨A6, c6, rfl, O6, B6⟩
  have X6 := Lib.hid (X5.out.trans (B6.mono X5.out.size))
  have s6 := B6.size
  have R6 := Lib.hid (R5.out.below B6 (by omega))
  have T6 := Lib.hid (T5.out.below B6)
  have P6 := Lib.hid (own_below O5.out B6)
  have O6 := Lib.hid O6
  clear B6 R5 T5 O5
  go_wp2_with fail
  refine (eqIntS_any _ _ _ _ _ _ X X _ (own_rd O6.out) (R6.out.mono (by omega)) (by omega)).mono ?_
  rintro e w7 ⟨rfl, B7⟩
  have X7 := Lib.hid (X6.out.trans (B7.mono X6.out.size))
  have s7 := B7.size
  have R7 := Lib.hid (R6.out.below B7 (by omega))
  have T7 := Lib.hid (T6.out.below B7)
  have P7 := Lib.hid (own_below P6.out B7)
  have O7 := Lib.hid (own_below O6.out B7)
  clear B7 R6 T6 P6 O6
  go_wp2_with fail
  refine (toIntSS_any _ _ _ Z0 _ ((R.out.below X7.out (Nat.le_refl _)).mono X7.out.size) hn0 hL1.out).mono ?_
  rintro e w8 ⟨rfl, bs8, T8, B8⟩
  have X8 := Lib.hid (X7.out.trans (B8.mono X7.out.size))
  have s8 := B8.size
  have R8 := Lib.hid (R7.out.below B8 (by omega))
  have TA := Lib.hid (T7.out.below B8)
  have P8 := Lib.hid (own_below P7.out B8)
  have O8 := Lib.hid (own_below O7.out B8)
  have T8 := Lib.hid T8
  clear B8 R7 T7 P7 O7
  go_wp2_with fail
  refine (eqIntSS_any _ _ _ _ _ Z0 _ TA.out.rdt T8.out.rdt hn0 hL1.out).mono ?_
  rintro e w9 ⟨rfl, B9⟩
  have X9 := Lib.hid (X8.out.trans (B9.mono X8.out.size))
  have s9 := B9.size
  have R9 := Lib.hid (R8.out.below B9 (by omega))
  have T9 := Lib.hid (TA.out.below B9)
  have P9 := Lib.hid (own_below P8.out B9)
  have O9 := Lib.hid (own_below O8.out B9)
  clear B9 R8 TA T8 P8 O8
  go_wp2_with fail
  refine (toIntS_any _ _ _ zs _ ((Q.out.below X9.out (Nat.le_refl _)).mono X9.out.size) (by omega)).mono ?_
  rintro e w10 ⟨rfl, N10, B10⟩
  have X10 := Lib.hid (X9.out.trans (B10.mono X9.out.size))
  have s10 := B10.size
  have R10 := Lib.hid (R9.out.below B10 (by omega))
  have T10 := Lib.hid (T9.out.below B10)
  have P10 := Lib.hid (own_below P9.out B10)
  have O10 := Lib.hid (own_below O9.out B10)
  have N10 := Lib.hid (Q.out.1 ▸ N10.rd : Rd w10 w10.heap.size _ len1 zs)
  clear B10 R9 T9 P9 O9
  have ty : decide (zs = zs) = true := by simp
  go_wp2_with fail
  refine (eqIntS_any _ _ _ _ _ _ zs zs _ (own_rd P10.out) N10.out (by omega)).mono ?_
  rintro e w11 ⟨rfl, B11⟩
  have X11 := Lib.hid (X10.out.trans (B11.mono X10.out.size))
  have s11 := B11.size
  have R11 := Lib.hid (R10.out.below B11 (by omega))
  have T11 := Lib.hid (T10.out.below B11)
  have P11 := Lib.hid (own_below P10.out B11)
  have O11 := Lib.hid (own_below O10.out B11)
  clear B11 R10 T10 P10 O10 N10
  go_wp2_with fail
  refine (markIntSS_any w3.heap.size w4.heap.size w3.heap.size len0 bs4 Z0 _ T11.out hT4.out hn0 htot.out).mono ?_
  rintro e w12 ⟨rfl, K12⟩
  rw [htt.out]
  have B12 := K12.below (show w3.heap.size ≤ w11.heap.size by omega)
  have X12 := Lib.hid (X11.out.trans (B12.mono X3.out.size))
  have s12 := B12.size
  have R12 := Lib.hid (R11.out.below B12 (Nat.le_refl _))
  have P12 := Lib.hid (own_band P11.out K12 (fun g hg => (P11.out.lt g hg).1))
  have O12 := Lib.hid (own_band O11.out K12 (fun g hg => by have := (O11.out.lt g hg).1; omega))
  clear K12 B12 R11 T11 P11 O11
  go_wp2_with fail
  refine (markIntS_any w4.heap.size _ len1 len1 zs _ _ P12.out (by omega) (by omega) (by omega)).mono ?_
  rintro e w13 ⟨rfl, -, G13⟩
  have X13 := Lib.hid (X12.out.grown G13 X12.out.size (fun g hg => by have := (P12.out.lt g hg).1; have := X3.out.size; omega))
  have s13 := G13.size
  have R13 := Lib.hid (R12.out.grown G13 (fun g hg => by have := (P12.out.lt g hg).1; omega))
  have O13 := Lib.hid (own_grown O12.out G13 (fun g hg => by have := (O12.out.lt g hg).1; simp only [Value.ownBlock]; intro e; have e := Option.some.inj e; omega))
  clear G13 R12 P12 O12
  have t3 : decide ((1 : Int) + tt + len1 < 0) = false := decide_eq_false (by omega)
  go_wp2_with fail
  refine (eqIntS_any _ _ _ _ _ _ X X _ (own_rd O13.out) (R13.out.mono (by omega)) (by omega)).mono ?_
  rintro e w14 ⟨rfl, B14⟩
  have X14 := Lib.hid (X13.out.trans (B14.mono X13.out.size))
  have s14 := B14.size
  have R14 := Lib.hid (R13.out.below B14 (by omega))
  have O14 := Lib.hid (own_below O13.out B14)
  clear B14 R13 O13
  go_wp2_with fail
  refine (markIntS_any w5.heap.size A6 L c6 X 1 _ O14.out (by omega) (by omega) (by omega)).mono ?_
  rintro e w15 ⟨rfl, O15, G15⟩
  have X15 := Lib.hid (X14.out.grown G15 X14.out.size (fun g hg => by have := (O14.out.lt g hg).1; have := X5.out.size; omega))
  have s15 := G15.size
  have R15 := Lib.hid (R14.out.grown G15 (fun g hg => by have := (O14.out.lt g hg).1; omega))
  have O15 := Lib.hid O15
  clear G15 R14 O14
  go_wp2_with fail
  refine (heldIntS_any w15.heap.size A6 L c6 1 _ (own_rd O15.out) (by omega) (by omega) (by omega)).mono ?_
  rintro e w' ⟨rfl, rfl⟩
  have t4 : decide ((1 : Int) + L < 0) = false := decide_eq_false (by omega)
  go_wp2_with fail
  refine (toIntSS_any _ _ _ Z0 _ ((R.out.below X15.out (Nat.le_refl _)).mono X15.out.size) hn0 hL1.out).mono ?_
  rintro e w16 ⟨rfl, bs16, T16, B16⟩
  have X16 := Lib.hid (X15.out.trans (B16.mono X15.out.size))
  have s16 := B16.size
  have R16 := Lib.hid (R15.out.below B16 (by omega))
  have O16 := Lib.hid (own_below O15.out B16)
  have T16 := Lib.hid T16
  clear B16 R15 O15
  go_wp2_with fail
  refine (toIntS_any _ _ _ zs _ ((Q.out.below X16.out (Nat.le_refl _)).mono X16.out.size) (by omega)).mono ?_
  rintro e w17 ⟨rfl, N17, B17⟩
  have X17 := Lib.hid (X16.out.trans (B17.mono X16.out.size))
  have s17 := B17.size
  have R17 := Lib.hid (R16.out.below B17 (by omega))
  have O17 := Lib.hid (own_below O16.out B17)
  have T17 := Lib.hid (T16.out.below B17)
  have N17 := Lib.hid (Q.out.1 ▸ N17.rd : Rd w17 w17.heap.size _ len1 zs)
  clear B17 R16 O16 T16
  go_wp2_with fail
  refine (ci.out _ _ _ _ _ T17.out.rdt N17.out).mono ?_
  rintro e w18 ⟨A18, c18, rfl, O18, B18⟩
  have X18 := Lib.hid (X17.out.trans (B18.mono X17.out.size))
  have s18 := B18.size
  have R18 := Lib.hid (R17.out.below B18 (by omega))
  have P18 := Lib.hid (own_below O17.out B18)
  have O18 := Lib.hid O18
  clear B18 R17 O17 T17 N17
  go_wp2_with fail
  refine (eqIntS_any _ _ _ _ _ _ X X _ (own_rd O18.out) (R18.out.mono (by omega)) (by omega)).mono ?_
  rintro e w19 ⟨rfl, B19⟩
  have X19 := Lib.hid (X18.out.trans (B19.mono X18.out.size))
  have P19 := Lib.hid (own_below P18.out B19)
  clear B19
  go_wp2_with fail
  refine (heldIntS_any w19.heap.size A6 L c6 1 _ (own_rd P19.out) (by omega) (by omega) (by omega)).mono ?_
  rintro e w' ⟨rfl, rfl⟩
  go_wp2_with fail
  go_ret
  exact ⟨rfl, X19.out⟩
end Go.Proofs.Ytkpbaaigopheeaa.fnExactSolveSystem
