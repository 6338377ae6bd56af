/- The walk of the law FnSolved. -/
import Derived.Test.YtkpbaaigopheeaaSolved
namespace Go.Proofs.Ytkpbaaigopheeaa.fnSolved
open Go.RowKit Go.PlainNum Go.Proofs.Ytkpbaaigopheeaa
set_option linter.unusedVariables false

theorem bld_tob_rdt {w : World} {base n W g cap : Nat} {bs ks : Nat → Nat} {R : Nat → List Int} (h : Bld w base (.slice (some ⟨g, 0, none⟩) n cap) n W bs ks R) (hW : ∀ j, j < n → (R j).length = W) : RdT w w.heap.size (some ⟨g, 0, none⟩) n R := (h.tob hW).rdt
theorem stimes_is (a b r : Int) (h : res (a * b) = r) (w : World) : Calls Try.prog 11 #[.int .i64 a, .int .i64 b] w fun e w' => e = .returned (.int .i64 r) ∧ w = w' := by
  subst h; exact stimes_any a b w
theorem splus_is (a b r : Int) (h : res (a + b) = r) (w : World) : Calls Try.prog 10 #[.int .i64 a, .int .i64 b] w fun e w' => e = .returned (.int .i64 r) ∧ w = w' := by
  subst h; exact splus_any a b w

set_option maxRecDepth 100000 in
set_option maxHeartbeats 16000000 in
theorem walk (a0 : Option Addr) (len0 cap0 : Nat) (z0 : List Int) (w : World) (w0 : IsRow .u8 w a0 len0 cap0 z0) :
    Calls Try.prog 3 #[.slice a0 len0 cap0] w fun e w' => e = .returned (.bool true) ∧ Below w.heap.size w w' := by
  by_cases hn : len0 ≤ 1048576
  case neg =>
    have t0 : decide ((len0 : Int) > 1048576) = true := decide_eq_true (by omega)
    have t0 := Lib.hid t0
    go_enter Try.func3, Try.ntmps3
    go_wp2_with fail
    refine (big_any _ _ _ _ _ t0.out).mono ?_
    rintro e w' ⟨rfl, rfl⟩
    go_wp2_with fail
    go_ret
    exact ⟨rfl, Below.refl _ _⟩
  have t0 : decide ((len0 : Int) > 1048576) = false := decide_eq_false (by omega)
  have R0 := Lib.hid w0.rdB
  have t0 := Lib.hid t0
  clear w0
  go_enter Try.func3, Try.ntmps3
  go_wp2_with fail
  refine (big_any _ _ _ _ _ t0.out).mono ?_
  rintro e w' ⟨rfl, rfl⟩
  go_wp2_with fail
  refine (drawSystem_any _ _ _ _ R0.out (by omega)).mono ?_
  rintro e w1 ⟨g, cap, n, W, bs, ks, R, A, c, zs, rfl, hn1, hn2, hW1, hW2, T1, hR, O1, hzn, B1⟩
  clear R0 t0
  have hzl : zs.length = n := by have := O1.1; simpa using this
  have LW := lawful hn1 hn2 hW1 hW2 hzl hzn hR
  have hRl : Hid (∀ j, j < n → (R j).length = W) := Lib.hid (fun j hj => (hR j hj).1)
  have hVl : Hid (∀ j, j < n → (wide R zs j).length = W + 1) := Lib.hid (fun j hj => (wide_ok hzl hzn hR j hj).1)
  have Q1 := Lib.hid T1.rdt
  have Q2 := Lib.hid (own_rd O1)
  have hL1 : Hid (∀ j, j < n → ((R j).length : Int) ≤ 4000000) := Lib.hid (fun j hj => by have := hRl.out j hj; omega)
  have hL2 : Hid (∀ j, j < n → ((wide R zs j).length : Int) ≤ 4000000) := Lib.hid (fun j hj => by have := hVl.out j hj; omega)
  obtain ⟨ra, rfl⟩ := own_form O1 hn1
  have T1 := Lib.hid T1
  have O1 := Lib.hid O1
  have B1 := Lib.hid B1
  obtain ⟨c1, hc1⟩ : ∃ c1, ciOf n (wide R zs) = c1 := ⟨_, rfl⟩
  obtain ⟨c2, hc2⟩ : ∃ c2, ciOf n R = c2 := ⟨_, rfl⟩
  obtain ⟨X, hX⟩ : ∃ X, solX n R zs = X := ⟨_, rfl⟩
  obtain ⟨b, hb⟩ : ∃ b, solB n R zs = b := ⟨_, rfl⟩
  rw [hc1, hc2, hX, hb] at LW
  obtain ⟨L, hL⟩ : ∃ L, X.length = L := ⟨_, rfl⟩
  have hc1 := Lib.hid hc1
  have hc2 := Lib.hid hc2
  have LW := Lib.hid LW
  clear hR hzn
  have s1 : w.heap.size ≤ w1.heap.size := B1.out.size
  go_wp2_with fail
  refine (sol_any w1.heap.size _ _ n cap n c R zs w1 Q1.out Q2.out (Nat.le_refl _) hL1.out (by omega) (by omega)).mono ?_
  rintro e w2 hP
  obtain ⟨A2, k2, rfl, O2, B2⟩ := hP.out
  rw [hX, hL] at O2
  rw [hX, hb, hL]
  have s2 : w1.heap.size ≤ w2.heap.size := B2.size
  have BB := Lib.hid (B1.out.trans (B2.mono s1))
  have Q1 := Lib.hid ((Q1.out.below B2 (Nat.le_refl _)).mono s2)
  have T2 := Lib.hid (T1.out.below B2)
  have P2 := Lib.hid (own_below O1.out B2)
  have O2 := Lib.hid O2
  have hX := Lib.hid hX
  have hb := Lib.hid hb
  have hL := Lib.hid hL
  have hzl := Lib.hid hzl
  clear hP B2 T1 O1 Q2 B1
  obtain ⟨i0, hi0, hz0, hz1, hz2⟩ := info_parts infoInt
  obtain ⟨i1, hi1, hy0, hy1, hy2⟩ := info_parts infoRow
  go_wp2_with fail
  go_loopw [7, 8] (fun p i wr => ∃ (k : Nat) (cs ds : Nat → Nat), i = .int .i64 k ∧ k ≤ n ∧ Hid (Bld wr w2.heap.size p k (W + 1) cs ds (wide R zs)) ∧ Hid (Below w2.heap.size w2 wr)) (fun _ i _ => n - (intOf i).toNat)
  case atStart => exact ⟨0, fun _ => 0, fun _ => 0, rfl, Nat.zero_le _, Lib.hid (bld_zero w2), Lib.hid ((Below.refl _ _).alloc (Nat.le_refl _) _)⟩
  case round =>
    rename_i p wr _
    obtain ⟨k, cs, ds, rfl, hk, HM, HB⟩ := hrel
    obtain ⟨Cp, d, rfl⟩ := own_nil HM.out.out
    by_cases hlt : k < n
    · have szr : w2.heap.size ≤ wr.heap.size := HB.out.size
      have hgl := T2.out.out.lt g rfl
      have hbl := row_lt (T2.out.row k hlt)
      have hral := P2.out.lt ra rfl
      have d1 : wr.cell? ⟨g, k, none⟩ = some (.slice (some ⟨bs k, 0, none⟩) W (ks k)) := (HB.out.cell (p := ⟨g, k, none⟩) hgl.2).trans (by rw [T2.out.out.cellAt k (by omega), hdv_get _ _ _ _ _ hlt, hRl.out k hlt])
      obtain ⟨z, hz⟩ : ∃ z, zs.getD k 0 = z := ⟨_, rfl⟩
      have r1 : wr.cell? ⟨ra, k, none⟩ = some (.int .i64 z) := (HB.out.cell (p := ⟨ra, k, none⟩) hral.2).trans (by
        have hl := hzl.out
        rw [P2.out.cellAt k (by omega), List.getElem?_map, List.getElem?_eq_getElem (by omega), ← hz]
        simp [List.getD, List.getElem?_eq_getElem (show k < zs.length by omega)])
      obtain ⟨sz, hsz⟩ : ∃ sz, wr.heap.size = sz := ⟨_, rfl⟩
      have RR := src_of ((own_rd (T2.out.row k hlt)).below HB.out (Nat.le_refl _))
      obtain ⟨xb, hxb⟩ : ∃ xb, bs k = xb := ⟨_, rfl⟩
      obtain ⟨kc, hkc⟩ : ∃ kc, ks k = kc := ⟨_, rfl⟩
      rw [hxb] at RR d1 hbl
      rw [hkc] at d1
      clear hxb hkc
      obtain ⟨vs, hvs⟩ : ∃ vs, (R k).map (Value.int .i64) = vs := ⟨_, rfl⟩
      rw [hvs] at RR
      have hvl : vs.length = W := by rw [← hvs]; simpa using hRl.out k hlt
      have hv1 : Hid (∀ u ∈ vs, u.oneCell' = true) := Lib.hid (by rw [← hvs]; exact vs_one _)
      have ne1 := World.new_ne wr _ d1
      have ne2 := World.new_ne wr _ r1
      have EA := Lib.hid (emp_a hsz (show xb < sz by omega) RR)
      have EB := Lib.hid (emp_b hsz (show xb < sz by omega) (.cells #[.int .i64 z] 3) RR)
      have EC := Lib.hid (emp_c hsz (show xb < sz by omega) (.cells #[.int .i64 z] 3) RR)
      have LB : Hid (World.cell? ((wr.drew.alloc (.cells #[] 3)).alloc (.cells #[.int .i64 z] 3)) ⟨sz + 1, 0, none⟩ = some (.int .i64 z)) := Lib.hid (lit_new _ _ _ _ (by simp only [asz, dsz]; omega))
      have LC : Hid (World.cell? ((wr.drew.alloc (.cells #[.int .i64 z] 3)).alloc (.cells #[] 3)) ⟨sz, 0, none⟩ = some (.int .i64 z)) := Lib.hid (((Below.refl (sz + 1) (wr.drew.alloc (.cells #[.int .i64 z] 3))).alloc (by simp only [asz, dsz]; omega) _).cell (p := ⟨sz, 0, none⟩) (Nat.lt_succ_self _) |>.trans (lit_new _ _ _ _ (by simp only [dsz]; omega)))
      have hvl := Lib.hid hvl
      have hvs := Lib.hid hvs
      have hz := Lib.hid hz
      have KC : Hid (∀ w1, Below sz wr w1 → w1.cell? ⟨g, k, none⟩ = some (.slice (some ⟨xb, 0, none⟩) W kc) ∧ w1.cell? ⟨ra, k, none⟩ = some (.int .i64 z)) := Lib.hid (fun w1 hb1 => ⟨(hb1.cell (p := ⟨g, k, none⟩) (show g < sz by omega)).trans d1, (hb1.cell (p := ⟨ra, k, none⟩) (show ra < sz by omega)).trans r1⟩)
      have M2 : Hid (∀ w3, Below sz wr w3 → Bld w3 w2.heap.size (.slice Cp k d) k (W + 1) cs ds (wide R zs)) := Lib.hid (fun w3 h3 => HM.out.below (by rw [hsz]; exact h3))
      have szr2 : w2.heap.size ≤ sz := by omega
      have KC2 : Hid (∀ w1, Below w2.heap.size wr w1 → w1.cell? ⟨g, k, none⟩ = some (.slice (some ⟨xb, 0, none⟩) W kc) ∧ w1.cell? ⟨ra, k, none⟩ = some (.int .i64 z)) := Lib.hid (fun w1 hb1 => ⟨(hb1.cell (p := ⟨g, k, none⟩) hgl.2).trans d1, (hb1.cell (p := ⟨ra, k, none⟩) hral.2).trans r1⟩)
      clear RR
      go_wp2_with fail
      go_region_held_law (fun w' => w'.cell? ⟨g, k, none⟩ = some (.slice (some ⟨xb, 0, none⟩) W kc) ∧ w'.cell? ⟨ra, k, none⟩ = some (.int .i64 z)) (go_keep) (first
        | (refine step_append_lies _ rfl (.tmp 35) (.tmp 39) 25 rfl sz 3 i0 (.int .i64 0) 1 8 Try.underlying25 hi0 hz0 hz1 hz2 rfl (by decide) (.slice (some ⟨sz, 0, none⟩) 0 0) 0 [] rfl EA.out.own ⟨xb, 0, none⟩ W kc vs rfl (by rw [hvl.out, Nat.mul_one]) EA.out.src hv1.out hW1 (by unfold maxLen; omega) (by omega) (EA.out.hi hsz) _ rfl ?_; intro g1 c1 w1 O1 G1 _ h1; have B1 := Lib.hid (EA.out.mid hsz (Nat.le_refl _) G1 h1); obtain ⟨q1, q2⟩ := KC.out _ B1.out; have nf1 := World.new_ne w1 _ q1; have nf2 := World.new_ne w1 _ q2; have O1 := Lib.hid O1; clear G1)
        | (refine step_append_lies _ rfl (.tmp 35) (.tmp 39) 25 rfl sz 3 i0 (.int .i64 0) 1 8 Try.underlying25 hi0 hz0 hz1 hz2 rfl (by decide) (.slice (some ⟨sz, 0, none⟩) 0 0) 0 [] rfl EB.out.own ⟨xb, 0, none⟩ W kc vs rfl (by rw [hvl.out, Nat.mul_one]) EB.out.src hv1.out hW1 (by unfold maxLen; omega) (by omega) (EB.out.hi hsz) _ rfl ?_; intro g1 c1 w1 O1 G1 _ h1; have B1 := Lib.hid (EB.out.mid hsz (Nat.le_refl _) G1 h1); have l1 := Lib.hid (EB.out.lit LB.out (by simp only [asz, dsz]; omega) (by omega) G1); obtain ⟨q1, q2⟩ := KC.out _ B1.out; have nf1 := World.new_ne w1 _ q1; have nf2 := World.new_ne w1 _ q2; have O1 := Lib.hid O1; clear G1)
        | (refine step_append_lies _ rfl (.tmp 35) (.tmp 39) 25 rfl sz 3 i0 (.int .i64 0) 1 8 Try.underlying25 hi0 hz0 hz1 hz2 rfl (by decide) (.slice (some ⟨sz + 1, 0, none⟩) 0 0) 0 [] rfl EC.out.own ⟨xb, 0, none⟩ W kc vs rfl (by rw [hvl.out, Nat.mul_one]) EC.out.src hv1.out hW1 (by unfold maxLen; omega) (by omega) (EC.out.hi hsz) _ rfl ?_; intro g1 c1 w1 O1 G1 _ h1; have B1 := Lib.hid (EC.out.mid hsz (Nat.le_succ _) G1 h1); have l1 := Lib.hid (EC.out.lit LC.out (by simp only [asz, dsz]; omega) (by omega) G1); obtain ⟨q1, q2⟩ := KC.out _ B1.out; have nf1 := World.new_ne w1 _ q1; have nf2 := World.new_ne w1 _ q2; have O1 := Lib.hid O1; clear G1)
        | (refine step_append_lies _ rfl (.tmp 40) (.tmp 45) 25 rfl sz 3 i0 (.int .i64 0) 1 8 Try.underlying25 hi0 hz0 hz1 hz2 rfl (by decide) (.slice (some ⟨g1, 0, none⟩) W c1) W vs rfl (by simpa using O1.out.alloc _) ⟨w1.heap.size, 0, none⟩ 1 1 [.int .i64 z] rfl rfl (cell_one_new w1 _ _) (int_one z) (by decide) (by unfold maxLen; omega) (by omega) (by have := B1.out.size; simp only [asz]; omega) _ rfl ?_; intro g2 c2 w2' O2 G2 _ h2; have B2 := Lib.hid (mid_own (B1.out.alloc (by have := B1.out.size; omega) _) (by have := B1.out.size; simp only [asz]; omega) (by simpa using O1.out.alloc _) G2); have O2 := Lib.hid O2; obtain ⟨p1, p2⟩ := KC.out _ B2.out; have mf1 := World.new_ne w2' _ p1; have mf2 := World.new_ne w2' _ p2; clear G2)
        | (refine step_append_lies _ rfl (.tmp 40) (.tmp 45) 25 rfl sz 3 i0 (.int .i64 0) 1 8 Try.underlying25 hi0 hz0 hz1 hz2 rfl (by decide) (.slice (some ⟨g1, 0, none⟩) (0 + W) c1) (0 + W) ([] ++ vs) rfl O1.out ⟨sz + 1, 0, none⟩ 1 1 [.int .i64 z] rfl rfl (lit_news l1.out) (int_one z) (by decide) (by unfold maxLen; omega) (by omega) (by have := B1.out.size; omega) _ rfl ?_; intro g2 c2 w2' O2 G2 _ h2; have B2 := Lib.hid (mid_own B1.out (by have := B1.out.size; omega) O1.out G2); have O2 := Lib.hid O2; obtain ⟨p1, p2⟩ := KC.out _ B2.out; have mf1 := World.new_ne w2' _ p1; have mf2 := World.new_ne w2' _ p2; clear G2)
        | (refine step_append_lies _ rfl (.tmp 40) (.tmp 45) 25 rfl sz 3 i0 (.int .i64 0) 1 8 Try.underlying25 hi0 hz0 hz1 hz2 rfl (by decide) (.slice (some ⟨g1, 0, none⟩) (0 + W) c1) (0 + W) ([] ++ vs) rfl O1.out ⟨sz, 0, none⟩ 1 1 [.int .i64 z] rfl rfl (lit_news l1.out) (int_one z) (by decide) (by unfold maxLen; omega) (by omega) (by have := B1.out.size; omega) _ rfl ?_; intro g2 c2 w2' O2 G2 _ h2; have B2 := Lib.hid (mid_own B1.out (by have := B1.out.size; omega) O1.out G2); have O2 := Lib.hid O2; obtain ⟨p1, p2⟩ := KC.out _ B2.out; have mf1 := World.new_ne w2' _ p1; have mf2 := World.new_ne w2' _ p2; clear G2)
        | (refine step_append_lies _ rfl (.tmp 34) (.tmp 47) 24 rfl w2.heap.size 25 i1 (.slice none 0 0) 1 24 Try.underlying24 hi1 hy0 hy1 hy2 rfl (by decide) (.slice Cp k d) k (heads k (W + 1) cs ds) rfl ((M2.out _ B2.out).out.alloc _) ⟨w2'.heap.size, 0, none⟩ 1 1 [.slice (some ⟨g2, 0, none⟩) (W + 1) c2] rfl rfl (cell_one_new w2' _ _) (hdr_one _ _ _) (by decide) (by unfold maxLen; omega) (by omega) (by have := B2.out.size; simp only [asz]; omega) _ rfl ?_; intro g3 c3 w3 O3 G3 _ h3; have X3 := Lib.hid (sol_push HM.out hsz szr2 B2.out (r := wide R zs k) (by rw [← wide_map R zs k z hz.out, hvs.out]; simpa using O2.out) rfl O3 G3); obtain ⟨o1, o2⟩ := KC2.out _ X3.out.2; clear O3 G3))
      all_goals (
        obtain ⟨⟨bs3, ks3, X4⟩, Y4⟩ := X3.out
        have X4 := Lib.hid X4
        have Y4 := Lib.hid (HB.out.trans Y4)
        clear X3
        go_wp2_with fail
        go_roundw)
      all_goals first | exact ⟨k + 1, _, _, by go_num, by omega, X4, Y4⟩ | (simp [intOf]; omega)
    · obtain rfl : k = n := by omega
      obtain ⟨gv, rfl⟩ := own_form HM.out.out hn1
      have szr : w2.heap.size ≤ wr.heap.size := HB.out.size
      have V1 := Lib.hid (bld_tob_rdt HM.out hVl.out)
      have Q1 := Lib.hid ((Q1.out.below HB.out (Nat.le_refl _)).mono szr)
      have T3 := Lib.hid (T2.out.below HB.out)
      have P3 := Lib.hid (own_below P2.out HB.out)
      have O3 := Lib.hid (own_below O2.out HB.out)
      have BB := Lib.hid (BB.out.trans (HB.out.mono (by omega)))
      clear HM HB T2 P2 O2
      go_wp2_with fail
      refine (ci_any wr.heap.size _ k _ (wide R zs) _ V1.out (Nat.le_refl _) hL2.out (by omega)).mono ?_
      rintro e w4 ⟨rfl, B4⟩
      rw [hc1.out]
      have s4 := B4.size
      have Q1 := Lib.hid ((Q1.out.below B4 (Nat.le_refl _)).mono s4)
      have T3 := Lib.hid (T3.out.below B4)
      have P3 := Lib.hid (own_below P3.out B4)
      have O3 := Lib.hid (own_below O3.out B4)
      have BB := Lib.hid (BB.out.trans (B4.mono BB.out.size))
      clear B4 V1
      go_wp2_with fail
      refine (ci_any w4.heap.size _ k _ R _ Q1.out (Nat.le_refl _) hL1.out (by omega)).mono ?_
      rintro e w5 ⟨rfl, B5⟩
      rw [hc2.out]
      have s5 := B5.size
      have Q1 := Lib.hid ((Q1.out.below B5 (Nat.le_refl _)).mono s5)
      have T3 := Lib.hid (T3.out.below B5)
      have P3 := Lib.hid (own_below P3.out B5)
      have O3 := Lib.hid (own_below O3.out B5)
      have BB := Lib.hid (BB.out.trans (B5.mono BB.out.size))
      clear B5
      have hcl := LW.out.lo
      cases hbb : b with
      | false =>
        subst hbb
        have hL0 : L = 0 := by rw [← hL.out, LW.out.none rfl]; rfl
        subst hL0
        have tq : (c1 == c2) = false := by rw [beq_eq_false_iff_ne]; exact of_decide_eq_false LW.out.same.symm
        go_wp2_with fail
        go_ret
        exact ⟨by simp, BB.out⟩
      | true =>
        subst hbb
        have hLW : W = L := by rw [← hL.out, LW.out.len rfl]
        subst hLW
        have tq : c1 = c2 := of_decide_eq_true LW.out.same.symm
        subst tq
        have S1 := Lib.hid (LW.out.sum rfl)
        have S2 := Lib.hid (LW.out.zeros rfl)
        obtain ⟨xa, rfl⟩ := own_form O3.out hW1
        have hgl := T3.out.out.lt g rfl
        have m0 : w5.cell? ⟨g, 0, none⟩ = some (.slice (some ⟨bs 0, 0, none⟩) W (ks 0)) := by rw [T3.out.out.cellAt 0 (by omega), hdv_get _ _ _ _ _ hn1, hRl.out 0 hn1]
        have t5 : ((W : Int) != (W : Int)) = false := by simp
        go_wp2_with fail
        go_loopw [9] (fun x wr => ∃ i : Nat, x = .int .i64 i ∧ i ≤ k ∧ Hid (Below w5.heap.size w5 wr)) (fun x _ => k - (intOf x).toNat)
        case atStart => exact ⟨0, rfl, Nat.zero_le _, Lib.hid (Below.refl _ _)⟩
        case round =>
          rename_i wr _
          obtain ⟨i, rfl, hik, HB⟩ := hrel
          have xfc : Hid (∀ wv, Below w5.heap.size w5 wv → ∀ q, q < W → wv.cell? ⟨xa, q, none⟩ = some (.int .i64 (X.getD q 0))) := Lib.hid (fun wv hv q hq => (hv.cell (p := ⟨xa, q, none⟩) (O3.out.lt xa rfl).2).trans (by
            have hl := hL.out
            rw [O3.out.cellAt q (by omega), List.getElem?_map, List.getElem?_eq_getElem (by omega)]
            simp [List.getD, List.getElem?_eq_getElem (show q < X.length by omega)]))
          by_cases hi : i < k
          · have m1 : Hid (∀ wv, Below w5.heap.size w5 wv → wv.cell? ⟨g, i, none⟩ = some (.slice (some ⟨bs i, 0, none⟩) W (ks i))) := Lib.hid (fun wv hv => (hv.cell (p := ⟨g, i, none⟩) hgl.2).trans (by rw [T3.out.out.cellAt i (by omega), hdv_get _ _ _ _ _ hi, hRl.out i hi]))
            have m2 : Hid (∀ wv, Below w5.heap.size w5 wv → ∀ q, q < W → wv.cell? ⟨bs i, q, none⟩ = some (.int .i64 (tabM R i q))) := Lib.hid (fun wv hv q hq => (hv.cell (p := ⟨bs i, q, none⟩) (row_lt (T3.out.row i hi)).2).trans (by
              have hl := hRl.out i hi
              rw [(T3.out.row i hi).cellAt q (by omega), List.getElem?_map, List.getElem?_eq_getElem (by omega)]
              simp [tabM, List.getD, List.getElem?_eq_getElem (show q < (R i).length by omega)]))
            have m3 : Hid (∀ wv, Below w5.heap.size w5 wv → wv.cell? ⟨ra, i, none⟩ = some (.int .i64 (zs.getD i 0))) := Lib.hid (fun wv hv => (hv.cell (p := ⟨ra, i, none⟩) (P3.out.lt ra rfl).2).trans (by
              have hl := hzl.out
              rw [P3.out.cellAt i (by omega), List.getElem?_map, List.getElem?_eq_getElem (by omega)]
              simp [List.getD, List.getElem?_eq_getElem (show i < zs.length by omega)]))
            have S1i := Lib.hid (S1.out i hi)
            obtain ⟨z, hz⟩ : ∃ z, zs.getD i 0 = z := ⟨_, rfl⟩
            rw [hz] at m3 S1i
            obtain ⟨bi, hbi⟩ : ∃ bi, bs i = bi := ⟨_, rfl⟩
            obtain ⟨ki, hki⟩ : ∃ ki, ks i = ki := ⟨_, rfl⟩
            rw [hbi] at m1 m2
            rw [hki] at m1
            obtain ⟨f, hf⟩ : ∃ f, tabM R i = f := ⟨_, rfl⟩
            obtain ⟨xf, hxf⟩ : ∃ xf : Nat → Int, (fun q => X.getD q 0) = xf := ⟨_, rfl⟩
            have xfc2 : Hid (∀ wv, Below w5.heap.size w5 wv → ∀ q, q < W → wv.cell? ⟨xa, q, none⟩ = some (.int .i64 (xf q))) := Lib.hid (by rw [← hxf]; exact xfc.out)
            rw [hf] at m2 S1i
            rw [hxf] at S1i
            clear hz hbi hki hf hxf m0
            go_wp2_with fail
            go_loopw [10, 11] (fun c x wr2 => ∃ q : Nat, c = .int .i64 (res (dot f xf q)) ∧ x = .int .i64 q ∧ q ≤ W ∧ Hid (Below w5.heap.size w5 wr2)) (fun _ x _ => W - (intOf x).toNat)
            case atStart => exact ⟨0, rfl, rfl, Nat.zero_le _, HB⟩
            case round =>
              obtain ⟨q, rfl, rfl, hq, HB2⟩ := hrel
              have d1 := m1.out _ HB2.out
              by_cases hqW : q < W
              · have d2 := m2.out _ HB2.out q hqW
                have d3 := xfc2.out _ HB2.out q hqW
                obtain ⟨t1, ht1⟩ : ∃ t1, res (f q * xf q) = t1 := ⟨_, rfl⟩
                have hs : res (res (dot f xf q) + t1) = res (dot f xf (q + 1)) := by rw [← ht1, res_add_res, dot_succ]
                obtain ⟨s0, hs0⟩ : ∃ s0, res (dot f xf q) = s0 := ⟨_, rfl⟩
                obtain ⟨s9, hs9⟩ : ∃ s9, res (dot f xf (q + 1)) = s9 := ⟨_, rfl⟩
                rw [hs0, hs9] at hs
                obtain ⟨fq, hfq⟩ : ∃ fq, f q = fq := ⟨_, rfl⟩
                obtain ⟨xq, hxq⟩ : ∃ xq, xf q = xq := ⟨_, rfl⟩
                rw [hfq] at d2 ht1
                rw [hxq] at d3 ht1
                have ht1 := Lib.hid ht1
                have hs := Lib.hid hs
                have hs9 := Lib.hid hs9
                rw [hs0]
                clear hs0 hfq hxq
                go_wp2_with fail
                go_quiet ((first | (go_at_call 11; exact quiet_tab (stimes_is fq xq t1 ht1.out _)) | (go_at_call 10; exact quiet_tab (splus_is s0 t1 s9 hs.out _))))
                go_wp2_with fail
                go_roundw
                case rel => exact ⟨q + 1, by rw [hs9.out], by go_num, by omega, Lib.hid (bel_drewN HB2.out _)⟩
                case measure => simp [intOf]; omega
              · obtain rfl : q = W := by omega
                have d3 := m3.out _ HB2.out
                have tz : (z != z) = false := by simp
                rw [S1i.out]
                go_wp2_with fail
                go_roundw
                case rel => exact ⟨i + 1, by go_num, by omega, HB2⟩
                case measure => simp [intOf]; omega
          · obtain rfl : i = k := by omega
            obtain ⟨xf, hxf⟩ : ∃ xf : Nat → Int, (fun q => X.getD q 0) = xf := ⟨_, rfl⟩
            have xfc2 : Hid (∀ wv, Below w5.heap.size w5 wv → ∀ q, q < W → wv.cell? ⟨xa, q, none⟩ = some (.int .i64 (xf q))) := Lib.hid (by rw [← hxf]; exact xfc.out)
            rw [hxf] at S2
            clear hxf m0
            go_wp2_with fail
            go_loopw [12, 13] (fun c x wr2 => ∃ q : Nat, c = .int .i64 ((q : Int) - (nzs xf q : Int)) ∧ x = .int .i64 q ∧ q ≤ W ∧ Hid (Below w5.heap.size w5 wr2)) (fun _ x _ => W - (intOf x).toNat)
            case atStart => exact ⟨0, rfl, rfl, Nat.zero_le _, HB⟩
            case round =>
              obtain ⟨q, rfl, rfl, hq, HB2⟩ := hrel
              have hnz := nzs_le xf q
              by_cases hqW : q < W
              · have d3 := xfc2.out _ HB2.out q hqW
                by_cases h0 : xf q = 0
                · rw [h0] at d3
                  have e : Hid (nzs xf (q + 1) = nzs xf q) := Lib.hid (by simp only [nzs]; rw [if_pos h0]; rfl)
                  clear h0
                  go_wp2_with fail
                  go_roundw
                  case rel => exact ⟨q + 1, by rw [e.out]; go_num, by go_num, by omega, HB2⟩
                  case measure => simp [intOf]; omega
                · have t6 : (xf q == 0) = false := by rw [beq_eq_false_iff_ne]; exact h0
                  have e : Hid (nzs xf (q + 1) = nzs xf q + 1) := Lib.hid (by simp only [nzs]; rw [if_neg h0])
                  go_wp2_with fail
                  go_roundw
                  case rel => exact ⟨q + 1, by rw [e.out]; go_num, by go_num, by omega, HB2⟩
                  case measure => simp [intOf]; omega
              · obtain rfl : q = W := by omega
                have QQ := Lib.hid ((Q1.out.below HB2.out (Nat.le_refl _)).mono HB2.out.size)
                have BZ := Lib.hid (BB.out.trans (HB2.out.mono BB.out.size))
                have hS := S2.out
                have t9 : decide ((q : Int) - (nzs xf q : Int) ≥ (q : Int) - c1) = true := decide_eq_true (by omega)
                have t10 : decide ((q : Int) - c1 ≤ (q : Int) - (nzs xf q : Int)) = true := decide_eq_true (by omega)
                go_wp2_with fail
                refine (ci_any _ _ i _ R _ QQ.out (Nat.le_refl _) hL1.out (by omega)).mono ?_
                rintro e w8 ⟨rfl, B8⟩
                rw [hc2.out]
                have BZ := Lib.hid (BZ.out.trans (B8.mono BZ.out.size))
                clear B8
                go_wp2_with fail
                go_ret
                exact ⟨rfl, BZ.out⟩
end Go.Proofs.Ytkpbaaigopheeaa.fnSolved
