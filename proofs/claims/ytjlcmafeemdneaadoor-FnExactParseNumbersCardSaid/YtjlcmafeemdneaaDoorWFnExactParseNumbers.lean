/- The walk of the law FnExactParseNumbers. -/
import Derived.Test.YtjlcmafeemdneaaDoorParseNs
namespace Go.Proofs.YtjlcmafeemdneaaDoor.fnExactParseNumbers
open Go.RowKit Go.PlainNum Go.Proofs.YtjlcmafeemdneaaDoor
set_option linter.unusedVariables false

set_option maxRecDepth 100000 in
set_option maxHeartbeats 2000000 in
theorem walk (a0 : ByteArray) (w : World) (w0 : a0.size ≤ maxLen) (m : Int) (hm : w.cell? ⟨0, 0, none⟩ = some (.int .i64 m)) :
    Calls Tryd.prog 3 #[.string a0] w fun e w' => e = .returned (.bool true) ∧ Below w.heap.size w w' := by
  by_cases hn : a0.size ≤ 1048576
  · have t0 : decide ((a0.size : Int) > 1048576) = false := decide_eq_false (by omega)
    have t1 : decide (1048576 < (a0.size : Int)) = false := decide_eq_false (by omega)
    have hl : (pnz (sp 32 a0.data.toList)).length ≤ 1500001 := by
      have h1 := pnz_len (sp 32 a0.data.toList)
      have h2 := sp_len 32 a0.data.toList
      have h3 : a0.data.toList.length = a0.size := Array.length_toList
      omega
    have cs := fun v => sparses_any a0 v (by omega)
    have ci := fun v hv => parses_any a0 m v (by omega) hv
    obtain ⟨b, hb⟩ : ∃ b, pnb (sp 32 a0.data.toList) = b := ⟨_, rfl⟩
    obtain ⟨zs, hz⟩ : ∃ zs, pnz (sp 32 a0.data.toList) = zs := ⟨_, rfl⟩
    rw [hb, hz] at cs ci
    rw [hz] at hl
    obtain ⟨n, hln⟩ : ∃ n, zs.length = n := ⟨_, rfl⟩
    unfold Nums at cs ci
    rw [hln] at cs ci hl
    have cs := Lib.hid cs
    have ci := Lib.hid ci
    have hln := Lib.hid hln
    have hm := Lib.hid hm
    have t2 : decide (zs = zs) = true := by simp
    have t3 : decide ((1 : Int) + n < 0) = false := decide_eq_false (by omega)
    clear hb hz
    go_enter Tryd.func3, Tryd.ntmps3
    go_wp2_with fail
    refine (cs.out _).mono ?_
    rintro e w1 ⟨A1, c1, rfl, O1, B1⟩
    have R1 := Lib.hid (own_rd O1)
    clear O1
    have hm1 := Lib.hid (keepC B1 hm.out)
    go_wp2_with fail
    refine (ci.out _ hm1.out).mono ?_
    rintro e w2 ⟨A2, c2, rfl, O2, B2⟩
    have R1 := Lib.hid (R1.out.below B2 (Nat.le_refl _))
    have hm2 := Lib.hid (keepC B2 hm1.out)
    have hk2 := Lib.hid (fun g hg => (O2.lt g hg).1)
    have s2 := B2.size
    have X2 := Lib.hid (B1.trans (B2.mono B1.size))
    have s02 := X2.out.size
    have O2 := Lib.hid O2
    go_wp2_with fail
    refine (eqIntS_any _ _ _ _ _ _ zs zs _ (own_rd O2.out) (R1.out.mono s2) (by omega)).mono ?_
    rintro e w3 ⟨rfl, B3⟩
    have R1 := Lib.hid (R1.out.below B3 s2)
    have hm3 := Lib.hid (keepC B3 hm2.out)
    have s3 := B3.size
    have O3 := Lib.hid (own_below O2.out B3)
    have X3 := Lib.hid (X2.out.trans (B3.mono s02))
    have s03 := X3.out.size
    cases b
    all_goals go_wp2_with fail
    all_goals refine (markIntS_any w1.heap.size A2 n c2 zs 1 _ O3.out (by omega) (by omega) (by omega)).mono ?_
    all_goals rintro e w4 ⟨rfl, O4, G4⟩
    all_goals have R1 := Lib.hid (R1.out.grown G4 (fun g hg => hk2.out g hg))
    all_goals have hm4 := Lib.hid (G4.cell hm3.out (fun q => absurd (World.block_lt_of_cell? _ _ hm1.out) (Nat.not_lt.2 (hk2.out _ q.symm))))
    all_goals have s4 := G4.size
    all_goals have X4 := Lib.hid (X3.out.grown G4 s03 (fun g hg => by have := hk2.out g hg; have := B1.size; omega))
    all_goals have s04 := X4.out.size
    all_goals have O4 := Lib.hid O4
    all_goals go_wp2_with fail
    all_goals refine (heldIntS_any w4.heap.size A2 n c2 1 _ (own_rd O4.out) (by omega) (by omega) (by omega)).mono ?_
    all_goals rintro e w' ⟨rfl, rfl⟩
    all_goals go_wp2_with fail
    all_goals refine (ci.out _ hm4.out).mono ?_
    all_goals rintro e w5 ⟨A5, c5, rfl, O5, B5⟩
    all_goals have R1 := Lib.hid (R1.out.below B5 (by omega))
    all_goals have O4 := Lib.hid (own_below O4.out B5)
    all_goals have s5 := B5.size
    all_goals have X5 := Lib.hid (X4.out.trans (B5.mono s04))
    all_goals have s05 := X5.out.size
    all_goals have O5 := Lib.hid O5
    all_goals go_wp2_with fail
    all_goals refine (eqIntS_any _ _ _ _ _ _ zs zs _ (own_rd O5.out) (R1.out.mono (by omega)) (by omega)).mono ?_
    all_goals rintro e w6 ⟨rfl, B6⟩
    all_goals have O4 := Lib.hid (own_below O4.out B6)
    all_goals have X6 := Lib.hid (X5.out.trans (B6.mono s05))
    all_goals go_wp2_with fail
    all_goals refine (heldIntS_any w6.heap.size A2 n c2 1 _ (own_rd O4.out) (by omega) (by omega) (by omega)).mono ?_
    all_goals rintro e w' ⟨rfl, rfl⟩
    all_goals go_wp2_with fail
    all_goals go_ret
    all_goals exact ⟨rfl, X6.out⟩
  · have t0 : decide ((a0.size : Int) > 1048576) = true := decide_eq_true (by omega)
    have t1 : decide (1048576 < (a0.size : Int)) = true := decide_eq_true (by omega)
    have t2 : 1048576 < a0.size := by omega
    go_enter Tryd.func3, Tryd.ntmps3
    go_wp2_with fail
    go_ret
    exact ⟨rfl, Below.refl _ _⟩
end Go.Proofs.YtjlcmafeemdneaaDoor.fnExactParseNumbers
