/- The contract of l1Reduce of the reference. -/
import Derived.Test.YtkpbaaigopheeaaRed
import Derived.Deep.Cut
namespace Go.Proofs.Ytkpbaaigopheeaa
open Go.RowKit Go.PlainNum

theorem res_sub_r (a b : Int) : res (a - res b) = res (a - b) := by simp only [res]; omega

theorem gau_full {n W : Nat} {M M' : Nat → Nat → Int} {pv : List Nat} {j : Nat} (hg : gau n W M j = (pv, M')) (h : n ≤ pv.length) : ∀ d, gau n W M (j + d) = (pv, M') := by
  intro d
  induction d with
  | zero => exact hg
  | succ d ih =>
    show gst n W (j + d) (gau n W M (j + d)) = _
    rw [ih, gst_no (by show ¬ fd M' (j + d) n pv.length < n; rw [fd_end (by omega)]; omega)]

set_option maxRecDepth 100000 in
set_option maxHeartbeats 16000000 in
theorem sred_any (g n k W C B : Nat) (bs ks : Nat → Nat) (M : Nat → Nat → Int) (w : World) (h : Mat w B w.heap.size g n W bs ks M) (hNm : Nm n W M) (hn : 0 < n) (hn' : n ≤ 100) (hW : W ≤ 100) (hC : C ≤ W) :
    Calls Try.prog 33 #[.slice (some ⟨g, 0, none⟩) n k, .int .i64 C] w fun e w' => Redd w w' B g n W C M e := by
  obtain ⟨i0, hi0, hz0, hz1, hz2⟩ := info_parts infoInt
  have H := Lib.hid h
  have hBw : B ≤ w.heap.size := by have h1 := h.hi.1; have h2 := h.lo.1; omega
  clear h
  have hNm := Lib.hid hNm
  go_enter Try.func33, Try.ntmps33
  go_wp2_with fail
  go_loopw [5, 6] (fun p c wr => ∃ (pv : List Nat) (j : Nat) (bs' ks' : Nat → Nat) (M' : Nat → Nat → Int), c = .int .i64 j ∧ j ≤ C ∧ pv.length ≤ n ∧ Hid (wr.ownsRow w.heap.size 3 1 p pv.length (pv.map fun i : Nat => Value.int .i64 (i : Int))) ∧ Hid (Mat wr B w.heap.size g n W bs' ks' M') ∧ Hid (Below B w wr) ∧ Hid (Nm n W M') ∧ Hid (gau n W M j = (pv, M')))
    (fun _ c _ => C - (intOf c).toNat)
  case atStart => exact ⟨[], 0, bs, ks, M, rfl, by omega, by simp, Lib.hid (World.ownsRow_lit w #[] 0 (Nat.le_refl _) (by unfold maxLen; omega) rfl), Lib.hid (H.out.below ((Below.refl _ _).alloc (Nat.le_refl _) _)), Lib.hid ((Below.refl _ _).alloc hBw _), hNm, Lib.hid rfl⟩
  case round =>
    rename_i p wr _
    obtain ⟨pv, j, bs', ks', M', rfl, hj, hpv, O, HM, HBW, HN, HG⟩ := hrel
    obtain ⟨Cp, d, rfl⟩ := own_nil O.out
    by_cases hlt : j < C
    · obtain ⟨t, ht⟩ : ∃ t, pv.length = t := ⟨_, rfl⟩
      have hT := Lib.hid ht
      rw [ht] at hpv
      rw [ht]
      have hfd := fd_le M' j n n t (by omega) hpv
      have hnz := fd_nz M' j n n t (by omega) hpv
      obtain ⟨a, ha⟩ : ∃ a, fd M' j n t = a := ⟨_, rfl⟩
      rw [ha] at hfd hnz
      have ha := Lib.hid ha
      by_cases htn : t < n
      case neg =>
        have R := Lib.hid (show Redd w wr B g n W C M (.returned (.slice Cp t d)) from by
          have q := gau_full HG.out (by have := hT.out; omega) (C - j)
          rw [show j + (C - j) = C by omega] at q
          have O' := O.out
          rw [hT.out] at O'
          exact ⟨Cp, t, d, bs', ks', rfl, by rw [q]; exact hT.out.symm, by rw [q]; exact O', by rw [q]; exact HM.out, by rw [q]; exact HN.out, HBW.out⟩)
        go_wp2_with fail
        go_ret
        exact R.out
      go_wp2_with fail
      go_loopw [8] (fun x wr2 => ∃ i : Nat, x = .int .i64 i ∧ t ≤ i ∧ i ≤ n ∧ Hid (fd M' j n i = a) ∧ Hid (wr2 = wr)) (fun x _ => n - (intOf x).toNat)
      case atStart => exact ⟨t, rfl, Nat.le_refl _, hpv, ha, Lib.hid rfl⟩
      case round =>
        rename_i wr2 _
        obtain ⟨i, rfl, hti, hin, E, hw2⟩ := hrel
        have hw2' := hw2.out
        subst hw2'
        clear hw2
        by_cases hi : i < n
        · have o1 := HM.out.out i hi
          have r1 := HM.out.row i j hi (by omega)
          obtain ⟨x, hx⟩ : ∃ x, M' i j = x := ⟨_, rfl⟩
          rw [hx] at r1
          have hx := Lib.hid hx
          by_cases hx0 : x = 0
          · subst hx0
            have E' := Lib.hid ((fd_go hi hx.out).trans E.out)
            go_wp2_with fail
            go_roundw
            case rel => exact ⟨i + 1, by go_num, by omega, by omega, E', by first | exact Lib.hid rfl | exact Lib.hid trivial⟩
            case measure => simp [intOf]; omega
          · have hia := (fd_end (M := M') (c := j) (n := n) (i := i) (by rw [hx.out]; exact fun q => hx0 q.2)).symm.trans E.out
            subst hia
            have t1 : (x == 0) = false := by rw [beq_eq_false_iff_ne]; exact hx0
            have t2 : ((i : Int) == (n : Int)) = false := by rw [beq_eq_false_iff_ne]; omega
            have ot := HM.out.out t (by omega)
            have fi := HM.out.ofz i hi
            have ft := HM.out.ofz t (by omega)
            have hit : i = t ∨ (i ≠ t ∧ t ≠ i) := by omega
            have HS := Lib.hid (HM.out.swap i t hi htn)
            have HB := Lib.hid (show Below B wr ((wr.setCell ⟨g, i, none⟩ (.slice (some ⟨bs' t, 0, none⟩) W (ks' t))).setCell ⟨g, t, none⟩ (.slice (some ⟨bs' i, 0, none⟩) W (ks' i))) from (((Below.refl _ _).setCell (p := ⟨g, i, none⟩) HM.out.hi.1 _).setCell (p := ⟨g, t, none⟩) HM.out.hi.1 _))
            have HA := Lib.hid (show fd M' j n t = i from ha.out)
            have HO := Lib.hid (show World.ownsRow ((wr.setCell ⟨g, i, none⟩ (.slice (some ⟨bs' t, 0, none⟩) W (ks' t))).setCell ⟨g, t, none⟩ (.slice (some ⟨bs' i, 0, none⟩) W (ks' i))) w.heap.size 3 1 (.slice Cp t d) t (pv.map fun i : Nat => Value.int .i64 (i : Int)) from by
              have q := O.out
              rw [ht] at q
              exact ownsRow_setCell_below (ownsRow_setCell_below q (a := ⟨g, i, none⟩) HM.out.lo.1 _) (a := ⟨g, t, none⟩) HM.out.lo.1 _)
            have NM2 : Hid (Nm n W (swp M' i t)) := Lib.hid (HN.out.swp hi htn)
            have HX : Hid (swp M' i t t j = x) := Lib.hid (by rw [swp_at]; exact hx.out)
            have HXX : Hid (∀ kk M2 M3, pw x 1000000269 = kk → M2 = swp M' i t → M3 = scl M2 t kk W → gau n W M (j + 1) = (pv ++ [j], elm M3 t j W n)) := Lib.hid (fun kk M2 M3 h1 h2 h3 => gau_yes HG.out hT.out HA.out hi hx.out h1 h2 h3)
            clear ha
            rcases hit with hit | ⟨hit, hit2⟩
            focus (
              have hit := hit.symm
              subst hit
              have c1 : (wr.setCell ⟨g, t, none⟩ (.slice (some ⟨bs' t, 0, none⟩) W (ks' t))).cell? ⟨g, t, none⟩ = some (.slice (some ⟨bs' t, 0, none⟩) W (ks' t)) := World.cell?_setCell_same _ _ _ ot
              go_upto_region 13 with fail
              generalize hw5 : World.setCell (World.setCell _ _ _) _ _ = w5 at HS HB HO ⊢
              obtain ⟨bs2, hbs2⟩ : ∃ bs2, swn bs' t t = bs2 := ⟨_, rfl⟩
              obtain ⟨ks2, hks2⟩ : ∃ ks2, swn ks' t t = ks2 := ⟨_, rfl⟩
              obtain ⟨M2, hM2⟩ : ∃ M2, swp M' t t = M2 := ⟨_, rfl⟩
              rw [hbs2, hks2, hM2] at HS
              rw [hM2] at HXX NM2 HX
              clear hM2 hks2 hbs2 hw5 o1 r1 ot fi ft c1)
            rotate_left
            focus (
              have c1 : (wr.setCell ⟨g, i, none⟩ (.slice (some ⟨bs' t, 0, none⟩) W (ks' t))).cell? ⟨g, t, none⟩ = some (.slice (some ⟨bs' t, 0, none⟩) W (ks' t)) := by rw [World.cell?_setCell_other _ _ _ _ (by intro e; exact hit2 (congrArg Addr.off e).symm)]; exact ot
              go_upto_region 13 with fail
              generalize hw5 : World.setCell (World.setCell _ _ _) _ _ = w5 at HS HB HO ⊢
              obtain ⟨bs2, hbs2⟩ : ∃ bs2, swn bs' i t = bs2 := ⟨_, rfl⟩
              obtain ⟨ks2, hks2⟩ : ∃ ks2, swn ks' i t = ks2 := ⟨_, rfl⟩
              obtain ⟨M2, hM2⟩ : ∃ M2, swp M' i t = M2 := ⟨_, rfl⟩
              rw [hbs2, hks2, hM2] at HS
              rw [hM2] at HXX NM2 HX
              clear hM2 hks2 hbs2 hw5 o1 r1 ot fi ft c1)
            rotate_left
            skip
            all_goals (
              have o2 := HS.out.out t htn
              have r2 := HS.out.row t j htn (by omega)
              rw [HX.out] at r2
              obtain ⟨kk, hkk⟩ : ∃ kk, pw x 1000000269 = kk := ⟨_, rfl⟩
              have cI := fun v => sinverse_any x v
              rw [hkk] at cI
              have cI := Lib.hid cI
              have HX3 := Lib.hid (fun M3 => HXX.out kk M2 M3 hkk rfl)
              clear HXX hkk
              go_wp2_with (go_at_call 43; refine (cI.out _).mono ?_; rintro e w' ⟨rfl, rfl⟩)
              go_loopw [11] (fun q wr3 => ∃ m : Nat, q = .int .i64 m ∧ m ≤ W ∧ Hid (Mat wr3 B w.heap.size g n W bs2 ks2 (scl M2 t kk m)) ∧ Hid (Below B w5 wr3) ∧ Hid (wr3.ownsRow w.heap.size 3 1 (.slice Cp t d) t (pv.map fun i : Nat => Value.int .i64 (i : Int)))) (fun q _ => W - (intOf q).toNat)
              case atStart => exact ⟨0, rfl, Nat.zero_le _, Lib.hid (by rw [scl_zero]; exact HS.out), Lib.hid (Below.refl _ _), HO⟩
              case round =>
                rename_i wr3 _
                obtain ⟨m, rfl, hm, HQ, HB3, HO3⟩ := hrel
                by_cases hmW : m < W
                · have o3 := HQ.out.out t htn
                  have r3 := HQ.out.row t m htn hmW
                  have f3 := HQ.out.rfz t m htn hmW
                  rw [scl_at] at r3
                  have X5 := Lib.hid (show ∀ wd, wd = wr.drew → Mat (wd.setCell ⟨bs2 t, m, none⟩ (.int .i64 (res (M2 t m * kk)))) B w.heap.size g n W bs2 ks2 (scl M2 t kk (m + 1)) ∧ Below B w5 (wd.setCell ⟨bs2 t, m, none⟩ (.int .i64 (res (M2 t m * kk)))) ∧ World.ownsRow (wd.setCell ⟨bs2 t, m, none⟩ (.int .i64 (res (M2 t m * kk)))) w.heap.size 3 1 (.slice Cp t d) t (pv.map fun i : Nat => Value.int .i64 (i : Int)) ∧ wd.cell? ⟨bs2 t, m, none⟩ = some (.int .i64 (M2 t m)) ∧ wd.frozen? ⟨bs2 t, m, none⟩ = false from by
                    rintro wd rfl
                    exact ⟨scl_succ M2 t kk m ▸ (HQ.out.drew.store t m htn hmW (res (M2 t m * kk))), HB3.out.drew.setCell (p := ⟨bs2 t, m, none⟩) (HQ.out.hi.2 t htn) (.int .i64 (res (M2 t m * kk))), ownsRow_setCell_below (w := World.drew _) HO3.out (a := ⟨bs2 t, m, none⟩) (HQ.out.lo.2 t htn) (.int .i64 (res (M2 t m * kk))), r3, f3⟩)
                  obtain ⟨z, hz⟩ : ∃ z, M2 t m = z := ⟨_, rfl⟩
                  rw [hz] at r3 X5
                  clear hz
                  go_wp2_with fail
                  go_still_tail 14, (by kernel_rfl)
                  still_call ((stimes_any z kk _).mono (by rintro e w' ⟨rfl, rfl⟩; exact ⟨rfl, rfl⟩))
                  refine wpStill_nil ?_
                  change wpList _ _ _ _ _ wr.drew
                  generalize hwd : wr.drew = wd
                  obtain ⟨Y1, Y2, Y3, Y4, Y5⟩ := X5.out wd hwd.symm
                  clear hwd
                  have Y1 := Lib.hid Y1
                  have Y2 := Lib.hid Y2
                  have Y3 := Lib.hid Y3
                  go_wp2_with fail
                  go_roundw
                  case rel => exact ⟨m + 1, by go_num, by omega, Y1, Y2, Y3⟩
                  case measure => simp [intOf]; omega
                · have o3 := HQ.out.out t htn
                  obtain rfl : m = W := by omega
                  have NM3 : Hid (Nm n m (scl M2 t kk m)) := Lib.hid (NM2.out.scl t kk m)
                  have HX4 := Lib.hid (HX3.out (scl M2 t kk m) rfl)
                  obtain ⟨M3, hM3⟩ : ∃ M3, scl M2 t kk m = M3 := ⟨_, rfl⟩
                  rw [hM3] at HQ NM3 HX4
                  clear hM3 HX3 NM2
                  go_wp2_with fail
                  go_loopw [8] (fun q wr4 => ∃ i4 : Nat, q = .int .i64 i4 ∧ i4 ≤ n ∧ Hid (Mat wr4 B w.heap.size g n m bs2 ks2 (elm M3 t j m i4)) ∧ Hid (Below B w5 wr4) ∧ Hid (wr4.ownsRow w.heap.size 3 1 (.slice Cp t d) t (pv.map fun i : Nat => Value.int .i64 (i : Int)))) (fun q _ => n - (intOf q).toNat)
                  case atStart => exact ⟨0, rfl, Nat.zero_le _, Lib.hid (by rw [elm_zero]; exact HQ.out), HB3, HO3⟩
                  case round =>
                    rename_i wr4 _
                    obtain ⟨i4, rfl, hi4, H4, HB4, HO4⟩ := hrel
                    by_cases hin4 : i4 < n
                    · have oo := H4.out.out i4 hin4
                      have rr := H4.out.row i4 j hin4 (by omega)
                      rw [elm_at] at rr
                      by_cases hit4 : i4 = t
                      · have hit5 := hit4.symm
                        subst hit5
                        have t6 : ((t : Int) != (t : Int)) = false := by simp
                        rw [← elm_top] at H4
                        obtain ⟨y, hy⟩ : ∃ y, M3 t j = y := ⟨_, rfl⟩
                        rw [hy] at rr
                        clear hy
                        by_cases hm0 : 0 < m
                        · have t7 : decide ((0 : Int) < (m : Int)) = true := decide_eq_true (by omega)
                          go_wp2_with fail
                          go_loopw [13] (fun q wr5 => q = .int .i64 0 ∧ Hid (wr5 = wr)) (fun q _ => 0)
                          case atStart => exact ⟨rfl, Lib.hid rfl⟩
                          case round =>
                            rename_i wr5 _
                            obtain ⟨rfl, hw2⟩ := hrel
                            have hw2' := hw2.out
                            subst hw2'
                            clear hw2
                            go_wp2_with fail
                            go_roundw
                            case rel => exact ⟨t + 1, by go_num, by omega, H4, HB4, HO4⟩
                            case measure => simp [intOf]; omega
                        · exact absurd hm0 (by omega)
                      · have t6 : ((i4 : Int) != (t : Int)) = true := by rw [bne_iff_ne]; omega
                        have t7 : t ≠ i4 := fun e => hit4 e.symm
                        have yb := NM3.out i4 j hin4 (by omega)
                        have ER := Lib.hid (elm_row M3 t j m i4 hit4)
                        have EV := Lib.hid (fun q => elm_t M3 t j m i4 q)
                        obtain ⟨y, hy⟩ : ∃ y, M3 i4 j = y := ⟨_, rfl⟩
                        rw [hy] at rr yb ER
                        clear hy
                        obtain ⟨M4, hM4⟩ : ∃ M4, elm M3 t j m i4 = M4 := ⟨_, rfl⟩
                        rw [hM4] at H4 ER EV
                        clear hM4
                        go_wp2_with fail
                        go_loopw [13] (fun q wr5 => ∃ m5 : Nat, q = .int .i64 m5 ∧ m5 ≤ m ∧ Hid (Mat wr5 B w.heap.size g n m bs2 ks2 (sbr M4 t i4 y m5)) ∧ Hid (Below B w5 wr5) ∧ Hid (wr5.ownsRow w.heap.size 3 1 (.slice Cp t d) t (pv.map fun i : Nat => Value.int .i64 (i : Int)))) (fun q _ => m - (intOf q).toNat)
                        case atStart => exact ⟨0, rfl, Nat.zero_le _, Lib.hid (by rw [sbr_zero]; exact H4.out), HB4, HO4⟩
                        case round =>
                          rename_i wr5 _
                          obtain ⟨m5, rfl, hm5, H5, HB5, HO5⟩ := hrel
                          by_cases hm5m : m5 < m
                          · have o5 := H5.out.out i4 hin4
                            have o6 := H5.out.out t htn
                            have r5 := H5.out.row i4 m5 hin4 hm5m
                            have r6 := H5.out.row t m5 htn hm5m
                            have f5 := H5.out.rfz i4 m5 hin4 hm5m
                            rw [sbr_at] at r5
                            rw [sbr_top _ _ _ _ _ t7] at r6
                            have X5 := Lib.hid (show ∀ wd, wd = wr.drew → Mat (wd.setCell ⟨bs2 i4, m5, none⟩ (.int .i64 (res (M4 i4 m5 - y * M4 t m5)))) B w.heap.size g n m bs2 ks2 (sbr M4 t i4 y (m5 + 1)) ∧ Below B w5 (wd.setCell ⟨bs2 i4, m5, none⟩ (.int .i64 (res (M4 i4 m5 - y * M4 t m5)))) ∧ World.ownsRow (wd.setCell ⟨bs2 i4, m5, none⟩ (.int .i64 (res (M4 i4 m5 - y * M4 t m5)))) w.heap.size 3 1 (.slice Cp t d) t (pv.map fun i : Nat => Value.int .i64 (i : Int)) ∧ wd.cell? ⟨bs2 i4, m5, none⟩ = some (.int .i64 (M4 i4 m5)) ∧ wd.frozen? ⟨bs2 i4, m5, none⟩ = false from by
                              rintro wd rfl
                              exact ⟨sbr_succ M4 t i4 y m5 ▸ (H5.out.drew.store i4 m5 hin4 hm5m (res (M4 i4 m5 - y * M4 t m5))), HB5.out.drew.setCell (p := ⟨bs2 i4, m5, none⟩) (H5.out.hi.2 i4 hin4) (.int .i64 (res (M4 i4 m5 - y * M4 t m5))), ownsRow_setCell_below (w := World.drew _) HO5.out (a := ⟨bs2 i4, m5, none⟩) (H5.out.lo.2 i4 hin4) (.int .i64 (res (M4 i4 m5 - y * M4 t m5))), r5, f5⟩)
                            obtain ⟨z, hz⟩ : ∃ z, M4 i4 m5 = z := ⟨_, rfl⟩
                            have vb := NM3.out t m5 htn hm5m
                            rw [← EV.out m5] at vb
                            obtain ⟨v, hv⟩ : ∃ v, M4 t m5 = v := ⟨_, rfl⟩
                            rw [hz, hv] at X5
                            rw [hz] at r5
                            rw [hv] at r6 vb
                            clear hz hv
                            have cM := fun w' => sminus_any z (res (y * v)) w'
                            rw [res_sub_r] at cM
                            have cM := Lib.hid cM
                            have o7 := H5.out.out i4 hin4
                            go_wp2_with fail
                            go_still_tail 22, (by kernel_rfl)
                            still_call ((stimes_any y v _).mono (by rintro e w' ⟨rfl, rfl⟩; exact ⟨rfl, rfl⟩))
                            still_call ((cM.out _).mono (by rintro e w' ⟨rfl, rfl⟩; exact ⟨rfl, rfl⟩))
                            refine wpStill_nil ?_
                            change wpList _ _ _ _ _ wr.drew
                            generalize hwd : wr.drew = wd
                            obtain ⟨Y1, Y2, Y3, Y4, Y5⟩ := X5.out wd hwd.symm
                            clear hwd
                            have Y1 := Lib.hid Y1
                            have Y2 := Lib.hid Y2
                            have Y3 := Lib.hid Y3
                            go_wp2_with fail
                            go_roundw
                            case rel => exact ⟨m5 + 1, by go_num, by omega, Y1, Y2, Y3⟩
                            case measure => simp [intOf]; omega
                          · have o5 := H5.out.out i4 hin4
                            obtain rfl : m5 = m := by omega
                            rw [ER.out] at H5
                            go_wp2_with fail
                            go_roundw
                            case rel => exact ⟨i4 + 1, by go_num, by omega, H5, HB5, HO5⟩
                            case measure => simp [intOf]; omega
                    · have hi4n : i4 = n := by omega
                      subst hi4n
                      have HZ : Hid (Below B w wr) := Lib.hid ((HBW.out.trans HB.out).trans HB4.out)
                      have szr : w.heap.size ≤ wr.heap.size := HZ.out.size
                      have NM5 := Lib.hid (NM3.out.elm t j m i4)
                      go_wp2_with (at_builtin; refine wpList_append_own _ rfl _ _ 25 rfl w.heap.size 3 i0 (.int .i64 0) 1 8 Try.underlying25 hi0 hz0 hz1 hz2 rfl (by decide) _ _ _ rfl (HO4.out.alloc _) ⟨wr.heap.size, 0, none⟩ 1 1 [.int .i64 j] rfl rfl (cell_one_new _ _ _) (by intro u hu; simp at hu; subst hu; rfl) (by unfold maxLen; omega) (by omega) (by simp; omega) ?_)
                      intro v9 w9 O9 G9 _
                      have B9 : Below w.heap.size wr w9 := ((Below.refl _ _).alloc szr _).grown G9 (by simp; omega) (by intro q hq; have := HO4.out.lt q hq; omega)
                      have H9 := Lib.hid (H4.out.below B9)
                      have O9 := Lib.hid O9
                      have Z9 := Lib.hid (HZ.out.trans (B9.mono hBw))
                      clear G9 B9
                      go_wp2_with fail
                      go_roundw
                      case rel => exact ⟨pv ++ [j], j + 1, bs2, ks2, elm M3 t j m i4, by go_num, by omega, by have := hT.out; simp; omega, Lib.hid (by have := hT.out; simpa [this] using O9.out), H9, Z9, NM5, HX4⟩
                      case measure => simp [intOf]; omega)
        · have hin : i = n := by omega
          have t2 : ((i : Int) == (n : Int)) = true := by rw [beq_iff_eq]; omega
          have HG' := Lib.hid (gau_no HG.out hT.out (by rw [ha.out, ← E.out, fd_end (by omega)]; exact hin))
          go_wp2_with fail
          go_roundw
          case rel => exact ⟨pv, j + 1, bs', ks', M', by go_num, by omega, by omega, (by have q := O.out; rw [ht] at q; exact Lib.hid (by rw [ht]; exact q)), HM, HBW, HN, HG'⟩
          case measure => simp [intOf]; omega
    · obtain rfl : j = C := by omega
      have R := Lib.hid (show Redd w wr B g n W j M (.returned (.slice Cp pv.length d)) from ⟨Cp, pv.length, d, bs', ks', rfl, by rw [HG.out], by rw [HG.out]; exact O.out, by rw [HG.out]; exact HM.out, by rw [HG.out]; exact HN.out, HBW.out⟩)
      go_wp2_with fail
      go_ret
      exact R.out
end Go.Proofs.Ytkpbaaigopheeaa
