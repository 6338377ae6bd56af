/- The contract of the reference's function that divides a list of levels into its branches. -/
import Derived.Test.YtojcnncaccnpeaaParts
import Derived.Deep.RegionLaw
import Derived.Deep.RegionHeldLaw
namespace Go.Proofs.Ytojcnncaccnpeaa
open Go.RowKit Go.PlainNum

set_option maxRecDepth 100000 in
set_option maxHeartbeats 8000000 in
theorem sparts_any (B : Nat) (A : Option Addr) (n c k0 : Nat) (zs : List Int) (R0 : Nat → List Int) (w : World) (h : Rd w B A n zs) (hB : B ≤ w.heap.size) (hn : n ≤ 6) (hlv : Lv zs) (hR0 : prts zs (n - 1) = (k0, R0)) :
    Calls Try.prog 15 #[.slice A n c] w fun e w' => PrtP w w' k0 R0 e := by
  have hl := h.1
  have hn1 : 0 < n := by have := hlv.pos; omega
  obtain ⟨i0, hi0, hz0, hz1, hz2⟩ := info_parts infoInt
  obtain ⟨i1, hi1, hy0, hy1, hy2⟩ := info_parts infoRow
  obtain ⟨lb, lo, rfl, hlb, hc⟩ := h.2 hn1
  obtain ⟨m, rfl⟩ : ∃ m, n = m + 1 := ⟨n - 1, by omega⟩
  rw [Nat.add_sub_cancel] at hR0
  have hc := Lib.hid hc
  have hlv := Lib.hid hlv
  have hR0 := Lib.hid hR0
  clear h
  go_enter Try.func15, Try.ntmps15
  go_wp2_with fail
  go_loopw [3, 4] (fun p x wr => ∃ (j k g cap : Nat) (bs ks : Nat → Nat) (R : Nat → List Int), p = .slice (some ⟨g, 0, none⟩) k cap ∧ x = .int .i64 (j + 1 : Nat) ∧ j ≤ m ∧ Hid (Tob wr w.heap.size (.slice (some ⟨g, 0, none⟩) k cap) k bs ks R) ∧ Hid (prts zs j = (k, R)) ∧ Hid (Below w.heap.size w wr)) (fun _ x _ => m + 1 - (intOf x).toNat)
  case atStart => exact ⟨0, 0, _, _, fun _ => 0, fun _ => 0, fun _ => [], rfl, rfl, Nat.zero_le _, Lib.hid (tob_zero w), Lib.hid rfl, Lib.hid ((Below.refl _ _).alloc (Nat.le_refl _) _)⟩
  case round =>
    rename_i wr _
    obtain ⟨j, k, g, cap, bs, ks, R, rfl, rfl, hj, HM, HP, HB⟩ := hrel
    by_cases hlt : j < m
    · have szr : w.heap.size ≤ wr.heap.size := HB.out.size
      have KC : Hid (∀ wv, Below w.heap.size w wv → wv.cell? ⟨lb, lo + (j + 1), none⟩ = some (.int .i64 (zs.getD (j + 1) 0)) ∧ wv.cell? ⟨lb, lo, none⟩ = some (.int .i64 0)) := Lib.hid (fun wv hv => ⟨(hv.cell (p := ⟨lb, lo + (j + 1), none⟩) (show lb < w.heap.size by omega)).trans (hc.out (j + 1) (by omega)), (hv.cell (p := ⟨lb, lo, none⟩) (show lb < w.heap.size by omega)).trans (by have q := hc.out 0 (by omega); rw [Nat.add_zero, hlv.out.root] at q; exact q)⟩)
      obtain ⟨c1, c0⟩ := KC.out _ HB.out
      have PK := prt_ok hlv.out j (by omega)
      rw [HP.out] at PK
      have hk1 : k ≤ j := PK.le
      have hk2 : 0 < j → 0 < k := PK.some
      have hkl : ∀ x, x < k → (R x).length ≤ j := PK.len
      have hv := hlv.out.next j (by omega)
      have hvj := hlv.out.le j (by omega)
      have hj0 : j = 0 → zs.getD j 0 = 0 := fun e => by subst e; exact hlv.out.root
      obtain ⟨v, hvv⟩ : ∃ v, zs.getD (j + 1) 0 = v := ⟨_, rfl⟩
      rw [hvv] at c1 hv KC
      have hv1 : 1 ≤ v ∧ v ≤ 6 := by omega
      have hvk : ¬ v < 2 → 0 < k := fun q => hk2 (by
        rcases Nat.eq_zero_or_pos j with h0 | h0
        · have := hj0 h0; omega
        · exact h0)
      have hkl := Lib.hid hkl
      have tl : decide (((j + 1 : Nat) : Int) < ((m + 1 : Nat) : Int)) = true := decide_eq_true (by omega)
      have tl2 : j + 1 < m + 1 := by omega
      clear PK hj0 hk2 hvj hv
      by_cases hv2 : v < 2
      · have t1 : (v == 1) = true := by rw [beq_iff_eq]; omega
        have NX : Hid (prts zs (j + 1) = (k + 1, stf (stf R k []) k (stf R k [] k ++ [v - 1]))) := Lib.hid (by rw [prts_new HP.out hvv hv2, stf_stf, stf_at]; rfl)
        have hve : v = 1 := by omega
        clear hvv hv2
        go_wp2_with fail
        go_quiet (fail)
        generalize hwa : wr.drewN _ = wa
        have HMa := Lib.hid (show Tob wa w.heap.size (.slice (some ⟨g, 0, none⟩) k cap) k bs ks R by rw [← hwa]; exact HM.out.below (bel_drewN (Below.refl _ _) _))
        have HBa := Lib.hid (show Below w.heap.size w wa by rw [← hwa]; exact bel_drewN HB.out _)
        have sza : w.heap.size ≤ wa.heap.size := HBa.out.size
        have hE : Hid (World.ownsRow (wa.alloc (.cells #[] 3)) w.heap.size 3 1 (.slice (some ⟨wa.heap.size, 0, none⟩) ([] : List Int).length 0) ([] : List Int).length (([] : List Int).map (Value.int .i64))) := Lib.hid (own_lower (World.ownsRow_lit wa #[] 0 (Nat.le_refl _) (by unfold maxLen; omega) rfl) sza)
        have T1 := Lib.hid (HMa.out.below ((Below.refl wa.heap.size wa).alloc (Nat.le_refl _) (.cells #[] 3)))
        have hnb := Lib.hid (fun i (hi : i < k) => (by have := (row_lt (HMa.out.row i hi)).2; omega : bs i ≠ wa.heap.size))
        clear HM HB hwa c1 c0 szr
        go_wp2_with (at_builtin; refine wpList_append_own _ rfl _ _ 29 rfl w.heap.size 22 i1 (.slice none 0 0) 1 24 Try.underlying29 hi1 hy0 hy1 hy2 rfl (by decide) _ _ _ rfl (T1.out.out.alloc _) ⟨wa.heap.size + 1, 0, none⟩ 1 1 [.slice (some ⟨wa.heap.size, 0, none⟩) 0 0] rfl rfl (by have q := cell_one_new (wa.alloc (.cells #[] 3)) (.slice (some ⟨wa.heap.size, 0, none⟩) 0 0) 22; rw [asz] at q; exact q) (by intro u hu; simp at hu; subst hu; rfl) (by unfold maxLen; omega) (by omega) (by simp only [asz]; omega) ?_)
        intro v2 w2 O2 G2 _
        have hown : ∀ q, (Value.slice (some ⟨g, 0, none⟩) k cap).ownBlock = some q → w.heap.size ≤ q := fun q hq => (HMa.out.out.lt q hq).1
        have X2 := (T1.out.below ((Below.refl _ _).alloc (Nat.le_refl _) (.cells #[.slice (some ⟨wa.heap.size, 0, none⟩) 0 0] 22))).push O2 G2 (own_below hE.out ((Below.refl _ _).alloc (Nat.le_refl _) _)) hnb.out
        have Y2 := (((HBa.out.alloc sza (.cells #[] 3)).alloc (by rw [asz]; omega) (.cells #[.slice (some ⟨wa.heap.size, 0, none⟩) 0 0] 22))).grown G2 (by simp only [asz]; omega) hown
        obtain ⟨C2, k2, rfl⟩ := own_nil O2
        obtain ⟨g2, rfl⟩ := own_form O2 (Nat.succ_pos k)
        have hql : (stf R k [] k).length ≤ 6 := by rw [stf_at]; simp
        clear O2 G2 hown hnb T1 hE
        have X2 := Lib.hid X2
        have Y2 := Lib.hid Y2
        clear HMa HBa t1 hkl HP hve
        obtain ⟨bT, hbT⟩ : ∃ bT, stf bs k wa.heap.size = bT := ⟨_, rfl⟩
        obtain ⟨kT, hkT⟩ : ∃ kT, stf ks k 0 = kT := ⟨_, rfl⟩
        obtain ⟨RT, hRT⟩ : ∃ RT, stf R k [] = RT := ⟨_, rfl⟩
        rw [hbT, hkT, hRT] at X2
        rw [hRT] at NX hql
        clear hbT hkT hRT
        obtain ⟨c1, c0⟩ := KC.out _ Y2.out
        have O1 := X2.out.row k (Nat.lt_succ_self k)
        have m1 : w2.cell? ⟨g2, k, none⟩ = some (.slice (some ⟨bT k, 0, none⟩) (RT k).length (kT k)) := by rw [X2.out.out.cellAt k (by omega), hdv_get _ _ _ _ _ (Nat.lt_succ_self k)]
        have f1 := X2.out.out.frozenAt k
        obtain ⟨r, hr⟩ : ∃ r, RT k = r := ⟨_, rfl⟩
        obtain ⟨L, hL⟩ : ∃ L, r.length = L := ⟨_, rfl⟩
        obtain ⟨b1, hb1⟩ : ∃ b1, bT k = b1 := ⟨_, rfl⟩
        obtain ⟨k1, hk1'⟩ : ∃ k1, kT k = k1 := ⟨_, rfl⟩
        have APP := Lib.hid (tob_last (x := v - 1) X2.out Y2.out hr hL hb1 hk1' w2.drew (Or.inr rfl))
        rw [hr, hL, hb1, hk1'] at O1 m1
        rw [hr, hL] at hql
        have sq : w.heap.size ≤ w2.heap.size := Y2.out.size
        have O1 : Hid (World.ownsRow (w2.drew.alloc (.cells #[.int .i64 (v - 1)] 3)) w.heap.size 3 1 (.slice (some ⟨b1, 0, none⟩) L k1) L (r.map (Value.int .i64))) := Lib.hid (own_below O1 ((Below.refl _ w2).drew.alloc (Nat.le_refl _) _))
        have ne1 := World.new_ne w2 _ m1
        have ne2 := World.new_ne w2 _ c1
        have ne3 := World.new_ne w2 _ c0
        have hwv : IntKind.i64.wrap (v - 1) = v - 1 := by rw [IntKind.wrap_i64]; omega
        have hwv2 : IntKind.i64.wrap v = v := by rw [IntKind.wrap_i64]; omega
        have m1a : (w2.alloc (.cells #[.int .i64 (v - 1)] 3)).cell? ⟨g2, k, none⟩ = some (.slice (some ⟨b1, 0, none⟩) L k1) := (((Below.refl _ w2).alloc (Nat.le_refl _) _).cell (p := ⟨g2, k, none⟩) (X2.out.out.lt g2 rfl).2).trans m1
        clear hr hL hb1 hk1'
        go_wp2_with fail
        obtain ⟨K, hK⟩ : ∃ K, k + 1 = K := ⟨_, rfl⟩
        rw [hK]
        have eK : (K : Int) - 1 = (k : Int) := by omega
        have hKq : k < K := by omega
        have hj9 : (0 : Int) ≤ (j : Int) + 1 := by omega
        have eW : IntKind.i64.wrap (k : Int) = (k : Int) := by rw [IntKind.wrap_i64]; omega
        have hK := Lib.hid hK
        go_region_law ((refine step_append_lies _ rfl (.tmp 34) (.tmp 44) 22 rfl w.heap.size 3 i0 (.int .i64 0) 1 8 Try.underlying22 hi0 hz0 hz1 hz2 rfl (by decide) (.slice (some ⟨b1, 0, none⟩) L k1) L (r.map (Value.int .i64)) rfl O1.out ⟨w2.heap.size, 0, none⟩ 1 1 [.int .i64 (v - 1)] rfl rfl (cell_one_new w2.drew _ _) (by intro u hu; simp at hu; subst hu; rfl) (by decide) (by unfold maxLen; omega) (by omega) (by simp only [asz, dsz]; omega) (w2.heap.size + 1) (by simp only [asz, dsz]) ?_; intro g5 c5 w5 O5 G5 L5 _; obtain ⟨Z1, Z2, m5, f5⟩ := APP.out g5 c5 w5 O5 G5 L5; have Z1 := Lib.hid Z1; have Z2 := Lib.hid Z2; clear O5 G5 L5))
        all_goals (
          have hK' := hK.out
          clear eK hKq hK eW hwv hwv2 hj9
          subst hK'
          go_wp2_with fail
          go_roundw)
        all_goals first | exact ⟨j + 1, k + 1, _, _, _, _, _, rfl, by go_num, by omega, Z1, NX, Z2⟩ | (simp [intOf]; omega)
      · have t1 : (v == 1) = false := by rw [beq_eq_false_iff_ne]; omega
        obtain ⟨q, rfl⟩ : ∃ q, k = q + 1 := ⟨k - 1, by have := hvk hv2; omega⟩
        have NX : Hid (prts zs (j + 1) = (q + 1, stf R q (R q ++ [v - 1]))) := Lib.hid (by rw [prts_old HP.out hvv hv2]; rfl)
        have hql : (R q).length ≤ 6 := by have := hkl.out q (Nat.lt_succ_self q); omega
        clear hvv HP hkl hv2
        go_wp2_with fail
        go_quiet (fail)
        generalize hwa : wr.drewN _ = wa
        have HMa := Lib.hid (show Tob wa w.heap.size (.slice (some ⟨g, 0, none⟩) (q + 1) cap) (q + 1) bs ks R by rw [← hwa]; exact HM.out.below (bel_drewN (Below.refl _ _) _))
        have HBa := Lib.hid (show Below w.heap.size w wa by rw [← hwa]; exact bel_drewN HB.out _)
        clear HM HB hwa c1 c0 t1 szr
        obtain ⟨c1, c0⟩ := KC.out _ HBa.out
        have O1 := HMa.out.row q (Nat.lt_succ_self q)
        have m1 : wa.cell? ⟨g, q, none⟩ = some (.slice (some ⟨bs q, 0, none⟩) (R q).length (ks q)) := by rw [HMa.out.out.cellAt q (by omega), hdv_get _ _ _ _ _ (Nat.lt_succ_self q)]
        have f1 := HMa.out.out.frozenAt q
        obtain ⟨r, hr⟩ : ∃ r, R q = r := ⟨_, rfl⟩
        obtain ⟨L, hL⟩ : ∃ L, r.length = L := ⟨_, rfl⟩
        obtain ⟨b1, hb1⟩ : ∃ b1, bs q = b1 := ⟨_, rfl⟩
        obtain ⟨k1, hk1'⟩ : ∃ k1, ks q = k1 := ⟨_, rfl⟩
        have APP := Lib.hid (tob_last (x := v - 1) HMa.out HBa.out hr hL hb1 hk1' wa.drew (Or.inr rfl))
        rw [hr, hL, hb1, hk1'] at O1 m1
        rw [hr, hL] at hql
        have sq : w.heap.size ≤ wa.heap.size := HBa.out.size
        have O1 : Hid (World.ownsRow (wa.drew.alloc (.cells #[.int .i64 (v - 1)] 3)) w.heap.size 3 1 (.slice (some ⟨b1, 0, none⟩) L k1) L (r.map (Value.int .i64))) := Lib.hid (own_below O1 ((Below.refl _ wa).drew.alloc (Nat.le_refl _) _))
        have ne1 := World.new_ne wa _ m1
        have ne2 := World.new_ne wa _ c1
        have ne3 := World.new_ne wa _ c0
        have hwv : IntKind.i64.wrap (v - 1) = v - 1 := by rw [IntKind.wrap_i64]; omega
        have hwv2 : IntKind.i64.wrap v = v := by rw [IntKind.wrap_i64]; omega
        have m1a : (wa.alloc (.cells #[.int .i64 (v - 1)] 3)).cell? ⟨g, q, none⟩ = some (.slice (some ⟨b1, 0, none⟩) L k1) := (((Below.refl _ wa).alloc (Nat.le_refl _) _).cell (p := ⟨g, q, none⟩) (HMa.out.out.lt g rfl).2).trans m1
        clear hr hL hb1 hk1'
        go_wp2_with fail
        obtain ⟨K, hK⟩ : ∃ K, q + 1 = K := ⟨_, rfl⟩
        rw [hK]
        have eK : (K : Int) - 1 = (q : Int) := by omega
        have hKq : q < K := by omega
        have hj9 : (0 : Int) ≤ (j : Int) + 1 := by omega
        have eW : IntKind.i64.wrap (q : Int) = (q : Int) := by rw [IntKind.wrap_i64]; omega
        have hK := Lib.hid hK
        go_region_law ((refine step_append_lies _ rfl (.tmp 34) (.tmp 44) 22 rfl w.heap.size 3 i0 (.int .i64 0) 1 8 Try.underlying22 hi0 hz0 hz1 hz2 rfl (by decide) (.slice (some ⟨b1, 0, none⟩) L k1) L (r.map (Value.int .i64)) rfl O1.out ⟨wa.heap.size, 0, none⟩ 1 1 [.int .i64 (v - 1)] rfl rfl (cell_one_new wa.drew _ _) (by intro u hu; simp at hu; subst hu; rfl) (by decide) (by unfold maxLen; omega) (by omega) (by simp only [asz, dsz]; omega) (wa.heap.size + 1) (by simp only [asz, dsz]) ?_; intro g5 c5 w5 O5 G5 L5 _; obtain ⟨Z1, Z2, m5, f5⟩ := APP.out g5 c5 w5 O5 G5 L5; have Z1 := Lib.hid Z1; have Z2 := Lib.hid Z2; clear O5 G5 L5))
        all_goals (
          have hK' := hK.out
          clear eK hKq hK eW hwv hwv2 hj9
          subst hK'
          go_wp2_with fail
          go_roundw)
        all_goals first | exact ⟨j + 1, q + 1, _, _, _, _, _, rfl, by go_num, by omega, Z1, NX, Z2⟩ | (simp [intOf]; omega)
    · obtain rfl : j = m := by omega
      have e : Hid (k = k0 ∧ R = R0) := Lib.hid (by have q := HP.out.symm.trans hR0.out; exact ⟨congrArg Prod.fst q, congrArg Prod.snd q⟩)
      go_wp2_with fail
      go_ret
      obtain ⟨e1, e2⟩ := e.out
      subst e1
      subst e2
      exact ⟨g, cap, bs, ks, rfl, HM.out, HB.out⟩
end Go.Proofs.Ytojcnncaccnpeaa
