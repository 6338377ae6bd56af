/- The walk of the law FnExactTruncateSeries. -/
import Derived.Test.YtajalndghbbfdaaDoorSTrunc
import Derived.Test.YtajalndghbbfdaaDoorKeep
namespace Go.Proofs.YtajalndghbbfdaaDoor.fnExactTruncateSeries
open Go.RowKit Go.PlainNum Go.Proofs.YtajalndghbbfdaaDoor

set_option maxRecDepth 100000 in
set_option maxHeartbeats 4000000 in
theorem walk (o0 e0 : Int) (A0 : Option Addr) (len0 cap0 : Nat) (z0 : List Int) (kk : Int) (w : World) (_wa : (Lit.int .i64 o0).wf = true) (_wb : (Lit.int .i64 e0).wf = true) (w0 : IsRow .i64 w A0 len0 cap0 z0) (_wk : (Lit.int .i64 kk).wf = true) (hc : CT w.heap.size w) :
    Calls Tryd.prog 6 #[.agg #[.int .i64 o0, .int .i64 e0, .slice A0 len0 cap0], .int .i64 kk] w fun e w' => e = .returned (.bool true) ∧ Below w.heap.size w w' := by
  have hcap : (len0 : Int) ≤ 9223372036854775807 := by
    rcases w0 with ⟨_, h, _⟩ | ⟨x, _, hl, hm, _⟩
    · omega
    · unfold maxLen at hm; omega
  have R0 := Lib.hid w0.rd
  have hc := Lib.hid hc
  by_cases hle : len0 ≤ 1048576
  · have Hr := Lib.hid (show (if (len0 : Int) ≤ 1048576 then 1048576 - (len0 : Int) else -1) = 1048576 - (len0 : Int) from if_pos (by omega))
    have t1 : decide ((1048576 : Int) - len0 < 0) = false := decide_eq_false (by omega)
    obtain ⟨zs, hzs⟩ : ∃ zs, zs = z0.take len0 := ⟨_, rfl⟩
    rw [← hzs] at R0
    clear hzs w0 hcap
    have hl := Lib.hid R0.out.1
    have hL : (trT o0 e0 zs kk).length ≤ 4000 := by exact trT_len _ _ _ _
    go_enter Tryd.func6, Tryd.ntmps6
    go_wp2_with fail
    have X := Lib.hid (Below.refl w.heap.size w)
    refine (szSeries_any _ _ _ _ _ _ _ Hr.out (by omega)).mono ?_
    rintro e w1 ⟨rfl, B1⟩
    have TA := Lib.hid ((Three.new w _ _ _ _).below B1 (by simp))
    have s0 : w.heap.size ≤ w.heap.size := Nat.le_refl _
    have s1 : w.heap.size + 1 ≤ w1.heap.size := by have := B1.size; simpa using this
    have B1 := Below.step _ B1
    have R0 := Lib.hid (R0.out.below B1 (by omega))
    have X := Lib.hid (X.out.trans (B1.mono X.out.size))
    have TA0 := TA.out.c0
    have TA1 := TA.out.c1
    have TA2 := TA.out.c2
    go_wp2_with fail
    refine (toSeries_any _ _ _ _ _ zs _ (R0.out.mono (by omega)) (by omega)).mono ?_
    rintro e w2 ⟨A2, c2, rfl, O2, B2⟩
    rw [hl.out] at O2 ⊢
    have s2 := B2.size
    have O2 := Lib.hid O2
    have hA2 := Lib.hid (own_cap O2.out)
    have R2 := Lib.hid (own_rd O2.out)
    have lA2 := own_le O2.out
    clear O2
    have TA := Lib.hid (TA.out.below B2 (by omega))
    have R0 := Lib.hid (R0.out.below B2 (by omega))
    have X := Lib.hid (X.out.trans (B2.mono X.out.size))
    clear TA0 TA1 TA2
    have TA0 := TA.out.c0
    have TA1 := TA.out.c1
    have TA2 := TA.out.c2
    go_wp2_with fail
    refine (strunc_any o0 e0 A2 len0 c2 zs kk _ R2.out hA2.out lA2 (by omega)).mono ?_
    rintro e w3 ⟨A3, c3, rfl, O3, B3⟩
    obtain ⟨n, hn⟩ : ∃ n, (trT o0 e0 zs kk).length = n := ⟨_, rfl⟩
    obtain ⟨o, ho⟩ : ∃ o, trO o0 e0 zs kk = o := ⟨_, rfl⟩
    obtain ⟨u, hu⟩ : ∃ u, trU o0 e0 zs kk = u := ⟨_, rfl⟩
    obtain ⟨ys, hz⟩ : ∃ ys, trT o0 e0 zs kk = ys := ⟨_, rfl⟩
    rw [hn, ho, hu]
    rw [hn, hz] at O3
    rw [hn] at hL
    have hS := Lib.hid (⟨hn, ho, hu, hz⟩ : (trT o0 e0 zs kk).length = n ∧ trO o0 e0 zs kk = o ∧ trU o0 e0 zs kk = u ∧ trT o0 e0 zs kk = ys)
    have R3 := Lib.hid (own_rd O3)
    clear hn ho hu hz O3 R2 hA2
    have s3 := B3.size
    have TA := Lib.hid (TA.out.below B3 (by omega))
    have R0 := Lib.hid (R0.out.below B3 (by omega))
    have X := Lib.hid (X.out.trans (B3.mono X.out.size))
    clear TA0 TA1 TA2
    have TA0 := TA.out.c0
    have TA1 := TA.out.c1
    have TA2 := TA.out.c2
    have u1 : w.heap.size < w3.heap.size := by omega
    go_wp2_with fail
    refine (toSeries_any _ _ _ _ _ zs _ ((R0.out.mono (by omega)).alloc _) (by omega)).mono ?_
    rintro e w4 ⟨A4, c4, rfl, O4, B4⟩
    rw [hl.out] at O4 ⊢
    have TW := Lib.hid ((Three.new w3 _ _ _ _).below B4 (by simp))
    have s4 : w3.heap.size + 1 ≤ w4.heap.size := by have := B4.size; simpa using this
    have O4 := Lib.hid (own_base (b' := w3.heap.size + 1) O4 (by simp))
    have hA4 := Lib.hid (own_cap O4.out)
    have hk4 : ∀ g, (Value.slice A4 len0 c4).ownBlock = some g → w3.heap.size + 1 ≤ g ∧ g < w4.heap.size := fun g hg => by have := O4.out.lt g hg; simpa using this
    have hk4 := Lib.hid hk4
    have B4 := Below.step _ B4
    have TA := Lib.hid (TA.out.below B4 (by omega))
    have R0 := Lib.hid (R0.out.below B4 (by omega))
    have R3 := Lib.hid (R3.out.below B4 (by omega))
    have X := Lib.hid (X.out.trans (B4.mono X.out.size))
    clear TA0 TA1 TA2
    have TA0 := TA.out.c0
    have TA1 := TA.out.c1
    have TA2 := TA.out.c2
    have TW0 := TW.out.c0
    have TW1 := TW.out.c1
    have TW2 := TW.out.c2
    clear u1
    have u1 : w.heap.size < w4.heap.size := by omega
    have u2 : w3.heap.size < w4.heap.size := by omega
    go_wp2_with fail
    have X4 := Lib.hid (X.out.alloc X.out.size (.cells #[.int .i64 o0, .int .i64 e0, .slice A4 len0 c4] 24))
    refine (trunc_any o0 e0 A4 len0 c4 zs kk w.heap.size _ (hc.out.below X4.out (Nat.le_refl _)) X4.out.size ((own_rd O4.out).alloc _) (own_le O4.out) (by omega)).mono ?_
    rintro e w5 ⟨A5, c5, rfl, O5, B5⟩
    rw [hS.out.1, hS.out.2.1, hS.out.2.2.1]
    rw [hS.out.1, hS.out.2.2.2] at O5
    have TX := Lib.hid ((Three.new w4 _ _ _ _).below B5 (by simp))
    have s5 : w4.heap.size + 1 ≤ w5.heap.size := by have := B5.size; simpa using this
    have O5 := Lib.hid (own_base (b' := w4.heap.size + 1) O5 (by simp))
    have hk5 : ∀ g, (Value.slice A5 n c5).ownBlock = some g → w4.heap.size + 1 ≤ g ∧ g < w5.heap.size := fun g hg => by have := O5.out.lt g hg; simpa using this
    have hk5 := Lib.hid hk5
    have B5 := Below.step _ B5
    clear X4
    have TA := Lib.hid (TA.out.below B5 (by omega))
    have TW := Lib.hid (TW.out.below B5 (by omega))
    have R0 := Lib.hid (R0.out.below B5 (by omega))
    have R3 := Lib.hid (R3.out.below B5 (by omega))
    have O4 := Lib.hid (own_below O4.out B5)
    have X := Lib.hid (X.out.trans (B5.mono X.out.size))
    clear TA0 TA1 TA2 TW0 TW1 TW2
    have TA0 := TA.out.c0
    have TA1 := TA.out.c1
    have TA2 := TA.out.c2
    have TW0 := TW.out.c0
    have TW1 := TW.out.c1
    have TW2 := TW.out.c2
    have TX0 := TX.out.c0
    have TX1 := TX.out.c1
    have TX2 := TX.out.c2
    clear u1 u2
    have u1 : w.heap.size < w5.heap.size := by omega
    have u2 : w3.heap.size < w5.heap.size := by omega
    have u3 : w4.heap.size < w5.heap.size := by omega
    go_wp2_with fail
    refine (eqSeries_eq o u A5 A3 n c5 c3 ys _ ((own_rd O5.out).alloc _) ((R3.out.mono (by omega)).alloc _) (by omega)).mono ?_
    rintro e w6 ⟨rfl, B6⟩
    have TG := Lib.hid ((Three.new w5 _ _ _ _).below B6 (by simp))
    have s6 : w5.heap.size + 1 ≤ w6.heap.size := by have := B6.size; simpa using this
    have B6 := Below.step _ B6
    have TA := Lib.hid (TA.out.below B6 (by omega))
    have TW := Lib.hid (TW.out.below B6 (by omega))
    have TX := Lib.hid (TX.out.below B6 (by omega))
    have R0 := Lib.hid (R0.out.below B6 (by omega))
    have R3 := Lib.hid (R3.out.below B6 (by omega))
    have O4 := Lib.hid (own_below O4.out B6)
    have O5 := Lib.hid (own_below O5.out B6)
    have X := Lib.hid (X.out.trans (B6.mono X.out.size))
    clear TA0 TA1 TA2 TW0 TW1 TW2 TX0 TX1 TX2
    have TA0 := TA.out.c0
    have TA1 := TA.out.c1
    have TA2 := TA.out.c2
    have TW0 := TW.out.c0
    have TW1 := TW.out.c1
    have TW2 := TW.out.c2
    have TX0 := TX.out.c0
    have TX1 := TX.out.c1
    have TX2 := TX.out.c2
    have TG0 := TG.out.c0
    have TG1 := TG.out.c1
    have TG2 := TG.out.c2
    clear u1 u2 u3
    have u1 : w.heap.size < w6.heap.size := by omega
    have u2 : w3.heap.size < w6.heap.size := by omega
    have u3 : w4.heap.size < w6.heap.size := by omega
    have u4 : w5.heap.size < w6.heap.size := by omega
    go_wp2_with fail
    have R0d : Rd w6.drew w6.drew.heap.size A0 len0 zs := R0.out.mono (by simp; omega)
    have R0d := Lib.hid R0d
    have R4d : Rd w6.drew w6.drew.heap.size A4 len0 zs := own_rd O4.out
    have R4d := Lib.hid R4d
    go_region_held3 (fun w' => w'.cell? ⟨w.heap.size, 0, none⟩ = some (.int .i64 o0) ∧ w'.cell? ⟨w.heap.size, 1, none⟩ = some (.int .i64 e0) ∧ w'.cell? ⟨w.heap.size, 2, none⟩ = some (.slice A0 len0 cap0) ∧ w'.cell? ⟨w4.heap.size, 0, none⟩ = some (.int .i64 o0) ∧ w'.cell? ⟨w4.heap.size, 1, none⟩ = some (.int .i64 e0) ∧ w'.cell? ⟨w4.heap.size, 2, none⟩ = some (.slice A4 len0 c4)) (go_keep) (first | (go_at_call 15; refine (toSeries_any o0 e0 A0 len0 cap0 zs _ ?_ ?_).mono ?_; (exact R0d.out); omega; rintro e w7 ⟨A7, c7, rfl, O7, B7⟩; rw [hl.out] at O7 ⊢; have R7 := Lib.hid (own_rd O7); have R47 := Lib.hid (rd_below R4d.out B7); have g0 := keepC B7 (show World.cell? _ ⟨w.heap.size, 0, none⟩ = _ from TA0); have g1 := keepC B7 (show World.cell? _ ⟨w.heap.size, 1, none⟩ = _ from TA1); have g2 := keepC B7 (show World.cell? _ ⟨w.heap.size, 2, none⟩ = _ from TA2); have g3 := keepC B7 (show World.cell? _ ⟨w4.heap.size, 0, none⟩ = _ from TX0); have g4 := keepC B7 (show World.cell? _ ⟨w4.heap.size, 1, none⟩ = _ from TX1); have g5 := keepC B7 (show World.cell? _ ⟨w4.heap.size, 2, none⟩ = _ from TX2); clear O7) | (go_at_call 10; refine (eqSeries_eq o0 e0 A4 A7 len0 c4 c7 zs _ ?_ ?_ ?_).mono ?_; (exact R47.out); (exact R7.out); omega; rintro e w8 ⟨rfl, B8⟩; have h0 := keepC B8 g0; have h1 := keepC B8 g1; have h2 := keepC B8 g2; have h3 := keepC B8 g3; have h4 := keepC B8 g4; have h5 := keepC B8 g5))
    have B9 := ((Below.refl w6.heap.size w6).drew.trans B7).trans (B8.mono B7.size)
    have s8 := B9.size
    clear B7 B8 R7 R47 R0d R4d g0 g1 g2 g3 g4 g5 h0 h1 h2 h3 h4 h5
    have TA := Lib.hid (TA.out.below B9 (by omega))
    have TW := Lib.hid (TW.out.below B9 (by omega))
    have TX := Lib.hid (TX.out.below B9 (by omega))
    have TG := Lib.hid (TG.out.below B9 (by omega))
    have R0 := Lib.hid (R0.out.below B9 (by omega))
    have R3 := Lib.hid (R3.out.below B9 (by omega))
    have O4 := Lib.hid (own_below O4.out B9)
    have O5 := Lib.hid (own_below O5.out B9)
    have X := Lib.hid (X.out.trans (B9.mono X.out.size))
    clear TA0 TA1 TA2 TW0 TW1 TW2 TX0 TX1 TX2 TG0 TG1 TG2
    have TX0 := TX.out.c0
    have TX1 := TX.out.c1
    have TX2 := TX.out.c2
    go_wp2_with fail
    refine (markSeries_any (w3.heap.size + 1) o0 e0 A4 len0 c4 zs 1 _ O4.out (by omega) (by omega) (by omega)).mono ?_
    rintro e w9 ⟨rfl, O9, G9⟩
    have s9 := G9.size
    have nA : (some w.heap.size : Option Nat) ≠ (Value.slice A4 len0 c4).ownBlock := fun e => by have := hk4.out _ e.symm; omega
    have nW : (some w3.heap.size : Option Nat) ≠ (Value.slice A4 len0 c4).ownBlock := fun e => by have := hk4.out _ e.symm; omega
    have nG : (some w5.heap.size : Option Nat) ≠ (Value.slice A4 len0 c4).ownBlock := fun e => by have := hk4.out _ e.symm; omega
    have TA := Lib.hid (TA.out.grown G9 nA)
    have TW := Lib.hid (TW.out.grown G9 nW)
    have TG := Lib.hid (TG.out.grown G9 nG)
    have R0 := Lib.hid (R0.out.grown G9 (fun g hg => by have := hk4.out g hg; omega))
    have R3 := Lib.hid (R3.out.grown G9 (fun g hg => by have := hk4.out g hg; omega))
    have O5 := Lib.hid (own_grown O5.out G9 (fun g hg q => by have := hk5.out g hg; have := hk4.out g q; omega))
    have X := Lib.hid (X.out.grown G9 X.out.size (fun g hg => by have := hk4.out g hg; omega))
    clear nA nW nG O9 G9 TX O4
    have t2 : decide ((1 : Int) + len0 < 0) = false := decide_eq_false (by omega)
    clear TX0 TX1 TX2
    have TA0 := TA.out.c0
    have TA1 := TA.out.c1
    have TA2 := TA.out.c2
    have TW0 := TW.out.c0
    have TW1 := TW.out.c1
    have TW2 := TW.out.c2
    have TG0 := TG.out.c0
    have TG1 := TG.out.c1
    have TG2 := TG.out.c2
    go_wp2_with fail
    refine (eqSeries_eq o u A5 A3 n c5 c3 ys _ (own_rd O5.out) (R3.out.mono (by omega)) (by omega)).mono ?_
    rintro e w10 ⟨rfl, B10⟩
    have s10 := B10.size
    have TA := Lib.hid (TA.out.below B10 (by omega))
    have TW := Lib.hid (TW.out.below B10 (by omega))
    have TG := Lib.hid (TG.out.below B10 (by omega))
    have R0 := Lib.hid (R0.out.below B10 (by omega))
    have R3 := Lib.hid (R3.out.below B10 (by omega))
    have O5 := Lib.hid (own_below O5.out B10)
    have X := Lib.hid (X.out.trans (B10.mono X.out.size))
    clear TA0 TA1 TA2 TW0 TW1 TW2 TG0 TG1 TG2
    have TA0 := TA.out.c0
    have TA1 := TA.out.c1
    have TA2 := TA.out.c2
    have TW0 := TW.out.c0
    have TW1 := TW.out.c1
    have TW2 := TW.out.c2
    have TG0 := TG.out.c0
    have TG1 := TG.out.c1
    have TG2 := TG.out.c2
    go_wp2_with fail
    refine (markSeries_any (w4.heap.size + 1) o u A5 n c5 ys 1 _ O5.out (by omega) (by omega) (by omega)).mono ?_
    rintro e w11 ⟨rfl, O11, G11⟩
    have s11 := G11.size
    have nA : (some w.heap.size : Option Nat) ≠ (Value.slice A5 n c5).ownBlock := fun e => by have := hk5.out _ e.symm; omega
    have nW : (some w3.heap.size : Option Nat) ≠ (Value.slice A5 n c5).ownBlock := fun e => by have := hk5.out _ e.symm; omega
    have nG : (some w5.heap.size : Option Nat) ≠ (Value.slice A5 n c5).ownBlock := fun e => by have := hk5.out _ e.symm; omega
    have TA := Lib.hid (TA.out.grown G11 nA)
    have TW := Lib.hid (TW.out.grown G11 nW)
    have TG := Lib.hid (TG.out.grown G11 nG)
    have R0 := Lib.hid (R0.out.grown G11 (fun g hg => by have := hk5.out g hg; omega))
    have R3 := Lib.hid (R3.out.grown G11 (fun g hg => by have := hk5.out g hg; omega))
    have X := Lib.hid (X.out.grown G11 X.out.size (fun g hg => by have := hk5.out g hg; omega))
    have O5 := Lib.hid O11
    clear nA nW nG O11 G11
    clear TA0 TA1 TA2 TW0 TW1 TW2 TG0 TG1 TG2
    have TA0 := TA.out.c0
    have TA1 := TA.out.c1
    have TA2 := TA.out.c2
    have TW0 := TW.out.c0
    have TW1 := TW.out.c1
    have TW2 := TW.out.c2
    have TG0 := TG.out.c0
    have TG1 := TG.out.c1
    have TG2 := TG.out.c2
    go_wp2_with fail
    refine (heldSeries_any o u A5 n c5 1 _ (own_rd O5.out) (by omega) (by omega) (by omega)).mono ?_
    rintro e w12 ⟨rfl, B12⟩
    have s12 := B12.size
    have t3 : decide ((1 : Int) + n < 0) = false := decide_eq_false (by omega)
    have TA := Lib.hid (TA.out.below B12 (by omega))
    have TW := Lib.hid (TW.out.below B12 (by omega))
    have TG := Lib.hid (TG.out.below B12 (by omega))
    have R0 := Lib.hid (R0.out.below B12 (by omega))
    have R3 := Lib.hid (R3.out.below B12 (by omega))
    have O5 := Lib.hid (own_below O5.out B12)
    have X := Lib.hid (X.out.trans (B12.mono X.out.size))
    clear TA0 TA1 TA2 TW0 TW1 TW2 TG0 TG1 TG2
    have TA0 := TA.out.c0
    have TA1 := TA.out.c1
    have TA2 := TA.out.c2
    have TW0 := TW.out.c0
    have TW1 := TW.out.c1
    have TW2 := TW.out.c2
    have TG0 := TG.out.c0
    have TG1 := TG.out.c1
    have TG2 := TG.out.c2
    go_wp2_with fail
    refine (toSeries_any o0 e0 A0 len0 cap0 zs _ (R0.out.mono (by omega)) (by omega)).mono ?_
    rintro e w13 ⟨A13, c13, rfl, O13, B13⟩
    rw [hl.out] at O13 ⊢
    have s13 := B13.size
    have O13 := Lib.hid O13
    have hA13 := Lib.hid (own_cap O13.out)
    have TA := Lib.hid (TA.out.below B13 (by omega))
    have TW := Lib.hid (TW.out.below B13 (by omega))
    have TG := Lib.hid (TG.out.below B13 (by omega))
    have R0 := Lib.hid (R0.out.below B13 (by omega))
    have R3 := Lib.hid (R3.out.below B13 (by omega))
    have O5 := Lib.hid (own_below O5.out B13)
    have X := Lib.hid (X.out.trans (B13.mono X.out.size))
    clear TA0 TA1 TA2 TW0 TW1 TW2 TG0 TG1 TG2
    have TA0 := TA.out.c0
    have TA1 := TA.out.c1
    have TA2 := TA.out.c2
    have TW0 := TW.out.c0
    have TW1 := TW.out.c1
    have TW2 := TW.out.c2
    have TG0 := TG.out.c0
    have TG1 := TG.out.c1
    have TG2 := TG.out.c2
    go_wp2_with fail
    refine (trunc_any o0 e0 A13 len0 c13 zs kk w.heap.size _ (hc.out.below X.out (Nat.le_refl _)) X.out.size (own_rd O13.out) (own_le O13.out) (by omega)).mono ?_
    rintro e w14 ⟨A14, c14, rfl, O14, B14⟩
    rw [hS.out.1, hS.out.2.1, hS.out.2.2.1]
    rw [hS.out.1, hS.out.2.2.2] at O14
    have s14 := B14.size
    have O14 := Lib.hid O14
    have TA := Lib.hid (TA.out.below B14 (by omega))
    have TW := Lib.hid (TW.out.below B14 (by omega))
    have TG := Lib.hid (TG.out.below B14 (by omega))
    have R0 := Lib.hid (R0.out.below B14 (by omega))
    have R3 := Lib.hid (R3.out.below B14 (by omega))
    have O5 := Lib.hid (own_below O5.out B14)
    have X := Lib.hid (X.out.trans (B14.mono X.out.size))
    clear TA0 TA1 TA2 TW0 TW1 TW2 TG0 TG1 TG2
    have TA0 := TA.out.c0
    have TA1 := TA.out.c1
    have TA2 := TA.out.c2
    have TW0 := TW.out.c0
    have TW1 := TW.out.c1
    have TW2 := TW.out.c2
    have TG0 := TG.out.c0
    have TG1 := TG.out.c1
    have TG2 := TG.out.c2
    have v1 : w3.heap.size < w14.heap.size := by omega
    have v2 : w5.heap.size < w14.heap.size := by omega
    go_wp2_with fail
    refine (eqSeries_eq o u A14 A3 n c14 c3 ys _ ((own_rd O14.out).alloc _) ((R3.out.mono (by omega)).alloc _) (by omega)).mono ?_
    rintro e w15 ⟨rfl, B15⟩
    have s15 : w14.heap.size + 1 ≤ w15.heap.size := by have := B15.size; simpa using this
    have B15 := Below.step _ B15
    have TA := Lib.hid (TA.out.below B15 (by omega))
    have TW := Lib.hid (TW.out.below B15 (by omega))
    have TG := Lib.hid (TG.out.below B15 (by omega))
    have R0 := Lib.hid (R0.out.below B15 (by omega))
    have R3 := Lib.hid (R3.out.below B15 (by omega))
    have O5 := Lib.hid (own_below O5.out B15)
    have X := Lib.hid (X.out.trans (B15.mono X.out.size))
    clear TA0 TA1 TA2 TW0 TW1 TW2 TG0 TG1 TG2
    have TG0 := TG.out.c0
    have TG1 := TG.out.c1
    have TG2 := TG.out.c2
    go_wp2_with fail
    refine (heldSeries_any o u A5 n c5 1 _ (own_rd O5.out) (by omega) (by omega) (by omega)).mono ?_
    rintro e w16 ⟨rfl, B16⟩
    have X16 := X.out.trans (B16.mono X.out.size)
    clear TG0 TG1 TG2
    go_wp2_with fail
    go_ret
    exact ⟨rfl, X16⟩
  · have Hr := Lib.hid (show (if (len0 : Int) ≤ 1048576 then 1048576 - (len0 : Int) else -1) = -1 from if_neg (by omega))
    go_enter Tryd.func6, Tryd.ntmps6
    go_wp2_with fail
    refine (szSeries_any _ _ _ _ _ _ _ Hr.out hcap).mono ?_
    rintro e w1 ⟨rfl, B1⟩
    go_wp2_with fail
    go_ret
    exact ⟨rfl, Below.step _ B1⟩
end Go.Proofs.YtajalndghbbfdaaDoor.fnExactTruncateSeries
