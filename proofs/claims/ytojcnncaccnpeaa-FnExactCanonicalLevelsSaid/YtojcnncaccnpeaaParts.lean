/- The contract of the program's function that divides a list of levels into its branches. -/
import Derived.Test.YtojcnncaccnpeaaTob
namespace Go.Proofs.Ytojcnncaccnpeaa
open Go.RowKit Go.PlainNum

theorem stf_stf {α : Type} (f : Nat → α) (k : Nat) (x y : α) : stf (stf f k x) k y = stf f k y := by
  funext j
  by_cases h : j = k
  · subst h; rw [stf_at, stf_at]
  · rw [stf_ne _ _ h, stf_ne _ _ h, stf_ne _ _ h]

/-- a level appended to the last row, its header laid anew -/
theorem tob_last {w wq : World} {base g cap q L b1 k1 : Nat} {bs ks : Nat → Nat} {R : Nat → List Int} {r : List Int} {x : Int} (h : Tob wq base (.slice (some ⟨g, 0, none⟩) (q + 1) cap) (q + 1) bs ks R) (hb : Below base w wq) (hr : R q = r) (hL : r.length = L) (hb1 : bs q = b1) (hk1 : ks q = k1) :
    ∀ wd, wd = wq ∨ wd = wq.drew → ∀ g5 c5 w5, World.ownsRow w5 base 3 1 (.slice (some ⟨g5, 0, none⟩) (L + 1) c5) (L + 1) (r.map (Value.int .i64) ++ [Value.int .i64 x]) → (wd.alloc (.cells #[.int .i64 x] 3)).grownBy w5 (Value.slice (some ⟨b1, 0, none⟩) L k1).ownBlock →
      ((Value.slice (some ⟨b1, 0, none⟩) L k1).ownBlock = some g5 ∨ g5 = wq.heap.size + 1) →
      Tob (w5.setCell ⟨g, q, none⟩ (.slice (some ⟨g5, 0, none⟩) (L + 1) c5)) base (.slice (some ⟨g, 0, none⟩) (q + 1) cap) (q + 1) (stf bs q g5) (stf ks q c5) (stf R q (R q ++ [x])) ∧ Below base w (w5.setCell ⟨g, q, none⟩ (.slice (some ⟨g5, 0, none⟩) (L + 1) c5)) ∧
      w5.cell? ⟨g, q, none⟩ = some (.slice (some ⟨b1, 0, none⟩) L k1) ∧ w5.frozen? ⟨g, q, none⟩ = false := by
  subst hr
  subst hL
  subst hb1
  subst hk1
  intro wd hwd g5 c5 w5 O5 G5 L5
  have hq : q < q + 1 := Nat.lt_succ_self q
  have hgl := h.out.lt g rfl
  have hbl := row_lt (h.row q hq)
  have hgb : g ≠ bs q := fun e => own_tags (h.row q hq) h.out (by decide) (bs q) rfl (by rw [← e]; rfl)
  have al : Below wq.heap.size wq (wd.alloc (.cells #[.int .i64 x] 3)) := by
    rcases hwd with rfl | rfl
    · exact (Below.refl _ _).alloc (Nat.le_refl _) _
    · exact (Below.refl _ wq).drew.alloc (Nat.le_refl _) _
  have hsz : (wd.alloc (.cells #[.int .i64 x] 3)).heap.size = wq.heap.size + 1 := by
    rcases hwd with rfl | rfl
    · rw [asz]
    · rw [asz, dsz]
  have h2 := h.below al
  have hl : ((R q) ++ [x]).length = (R q).length + 1 := by simp
  have O5' : World.ownsRow w5 base 3 1 (.slice (some ⟨g5, 0, none⟩) (R q ++ [x]).length c5) (R q ++ [x]).length ((R q ++ [x]).map (Value.int .i64)) := by rw [hl]; simpa using O5
  have X := h2.app hq O5' G5 (by rw [hsz]; exact L5)
  rw [hl] at X
  have B5 : Below base w w5 := (hb.trans (al.mono (by omega))).grown G5 (by rw [hsz]; omega) (fun q hq => by simp only [Value.ownBlock, Option.some.injEq] at hq; omega)
  have m1 : wq.cell? ⟨g, q, none⟩ = some (.slice (some ⟨bs q, 0, none⟩) (R q).length (ks q)) := by rw [h.out.cellAt q (by omega), hdv_get _ _ _ _ _ hq]
  refine ⟨X, B5.setCell (p := ⟨g, q, none⟩) hgl.1 _, ?_, ?_⟩
  · exact (G5.cell_far ⟨g, q, none⟩ (by rw [hsz]; show g < _; omega) (by simp only [Value.ownBlock]; exact fun e => hgb (Option.some.inj e))).trans ((al.cell (p := ⟨g, q, none⟩) hgl.2).trans m1)
  · exact (G5.frozen_far ⟨g, q, none⟩ (by rw [hsz]; show g < _; omega) (by simp only [Value.ownBlock]; exact fun e => hgb (Option.some.inj e))).trans (h2.out.frozenAt q)

/-- what the division leaves -/
def PrtP (w w' : World) (k : Nat) (R : Nat → List Int) (e : Ending) : Prop :=
  ∃ (g cap : Nat) (bs ks : Nat → Nat), e = .returned (.slice (some ⟨g, 0, none⟩) k cap) ∧ Tob w' w.heap.size (.slice (some ⟨g, 0, none⟩) k cap) k bs ks R ∧ Below w.heap.size w w'

set_option maxRecDepth 100000 in
set_option maxHeartbeats 4000000 in
theorem branch_any (B : Nat) (A : Option Addr) (n c k0 : Nat) (zs : List Int) (R0 : Nat → List Int) (w : World) (h : Rd w B A n zs) (hB : B ≤ w.heap.size) (hn : n ≤ 6) (hnc : n ≤ c) (hlv : Lv zs) (hR0 : prts zs (n - 1) = (k0, R0)) :
    Calls Try.prog 17 #[.slice A n c, .int .i64 1] w fun e w' => PrtP w w' k0 R0 e := by
  have hl := h.1
  have hn1 : 0 < n := by have := hlv.pos; omega
  obtain ⟨i0, hi0, hz0, hz1, hz2⟩ := info_parts infoInt
  obtain ⟨i1, hi1, hy0, hy1, hy2⟩ := info_parts infoRow
  obtain ⟨lb, lo, rfl, hlb, hc⟩ := h.2 hn1
  obtain ⟨m, rfl⟩ : ∃ m, n = m + 1 := ⟨n - 1, by omega⟩
  rw [Nat.add_sub_cancel] at hR0
  obtain ⟨d, rfl⟩ : ∃ d, c = d + 1 := ⟨c - 1, by omega⟩
  have hc := Lib.hid hc
  have hlv := Lib.hid hlv
  have hR0 := Lib.hid hR0
  clear h
  by_cases hd : d = 0
  · subst hd
    obtain rfl : m = 0 := by omega
    have hR1 : k0 = 0 ∧ R0 = fun _ => [] := by have q := hR0.out; simp only [prts, Prod.mk.injEq] at q; exact ⟨q.1.symm, q.2.symm⟩
    obtain ⟨rfl, rfl⟩ := hR1
    go_enter Try.func17, Try.ntmps17
    go_wp2_with fail
    go_loopw [5, 13] (fun p x wr => p = .slice (some ⟨w.heap.size, 0, none⟩) 0 0 ∧ x = .int .i64 0 ∧ Hid (wr = w.alloc (.cells #[] 22))) (fun _ _ _ => 0)
    case atStart => exact ⟨rfl, rfl, Lib.hid rfl⟩
    case round =>
      obtain ⟨rfl, rfl, hw⟩ := hrel
      have hw := hw.out
      subst hw
      go_wp2_with fail
      go_ret
      exact ⟨w.heap.size, 0, fun _ => 0, fun _ => 0, rfl, tob_zero w, (Below.refl _ _).alloc (Nat.le_refl _) _⟩
  go_enter Try.func17, Try.ntmps17
  go_wp2_with fail
  go_loopw [5, 13] (fun p x wr => ∃ (j k g cap : Nat) (bs ks : Nat → Nat) (R : Nat → List Int), p = .slice (some ⟨g, 0, none⟩) k cap ∧ x = .int .i64 j ∧ j ≤ m ∧ Hid (Tob wr w.heap.size (.slice (some ⟨g, 0, none⟩) k cap) k bs ks R) ∧ Hid (prts zs j = (k, R)) ∧ Hid (Below w.heap.size w wr)) (fun _ x _ => m - (intOf x).toNat)
  case atStart => exact ⟨0, 0, _, _, fun _ => 0, fun _ => 0, fun _ => [], rfl, rfl, Nat.zero_le _, Lib.hid (tob_zero w), Lib.hid rfl, Lib.hid ((Below.refl _ _).alloc (Nat.le_refl _) _)⟩
  case round =>
    rename_i wr _
    obtain ⟨j, k, g, cap, bs, ks, R, rfl, rfl, hj, HM, HP, HB⟩ := hrel
    by_cases hlt : j < m
    · have szr : w.heap.size ≤ wr.heap.size := HB.out.size
      have c1 : wr.cell? ⟨lb, lo + 1 + j, none⟩ = some (.int .i64 (zs.getD (j + 1) 0)) := by
        rw [show lo + 1 + j = lo + (j + 1) by omega]
        exact (HB.out.cell (p := ⟨lb, lo + (j + 1), none⟩) (show lb < w.heap.size by omega)).trans (hc.out (j + 1) (by omega))
      have PK := prt_ok hlv.out j (by omega)
      rw [HP.out] at PK
      have hk1 : k ≤ j := PK.le
      have hk2 : 0 < j → 0 < k := PK.some
      have hkl : ∀ x, x < k → (R x).length ≤ j := PK.len
      have hv := hlv.out.next j (by omega)
      have hvj := hlv.out.le j (by omega)
      have hj0 : j = 0 → zs.getD j 0 = 0 := fun e => by subst e; exact hlv.out.root
      obtain ⟨v, hvv⟩ : ∃ v, zs.getD (j + 1) 0 = v := ⟨_, rfl⟩
      rw [hvv] at c1 hv
      have hv1 : 1 ≤ v ∧ v ≤ 6 := by omega
      have hvk : ¬ v < 2 → 0 < k := fun q => hk2 (by
        rcases Nat.eq_zero_or_pos j with h0 | h0
        · have := hj0 h0; omega
        · exact h0)
      have hkl := Lib.hid hkl
      clear PK hj0 hk2 hvj hv
      by_cases hv2 : v < 2
      · have t1 : decide (v - 1 < 1) = true := decide_eq_true (by omega)
        have NX : Hid (prts zs (j + 1) = (k + 1, stf (stf R k []) k (stf R k [] k ++ [v - 1]))) := Lib.hid (by rw [prts_new HP.out hvv hv2, stf_stf, stf_at]; rfl)
        have hE : Hid (World.ownsRow (wr.alloc (.cells #[] 3)) w.heap.size 3 1 (.slice (some ⟨wr.heap.size, 0, none⟩) ([] : List Int).length 0) ([] : List Int).length (([] : List Int).map (Value.int .i64))) := Lib.hid (own_lower (World.ownsRow_lit wr #[] 0 (Nat.le_refl _) (by unfold maxLen; omega) rfl) szr)
        have T1 := Lib.hid (HM.out.below ((Below.refl wr.heap.size wr).alloc (Nat.le_refl _) (.cells #[] 3)))
        have hnb := Lib.hid (fun i (hi : i < k) => (by have := (row_lt (HM.out.row i hi)).2; omega : bs i ≠ wr.heap.size))
        clear hvv
        go_wp2_with (at_builtin; refine wpList_append_own _ rfl _ _ 29 rfl w.heap.size 22 i1 (.slice none 0 0) 1 24 Try.underlying29 hi1 hy0 hy1 hy2 rfl (by decide) _ _ _ rfl (T1.out.out.alloc _) ⟨wr.heap.size + 1, 0, none⟩ 1 1 [.slice (some ⟨wr.heap.size, 0, none⟩) 0 0] rfl rfl (by have q := cell_one_new (wr.alloc (.cells #[] 3)) (.slice (some ⟨wr.heap.size, 0, none⟩) 0 0) 22; rw [asz] at q; exact q) (by intro u hu; simp at hu; subst hu; rfl) (by unfold maxLen; omega) (by omega) (by simp only [asz]; omega) ?_)
        intro v2 w2 O2 G2 _
        have hown : ∀ q, (Value.slice (some ⟨g, 0, none⟩) k cap).ownBlock = some q → w.heap.size ≤ q := fun q hq => (HM.out.out.lt q hq).1
        have X2 := (T1.out.below ((Below.refl _ _).alloc (Nat.le_refl _) (.cells #[.slice (some ⟨wr.heap.size, 0, none⟩) 0 0] 22))).push O2 G2 (own_below hE.out ((Below.refl _ _).alloc (Nat.le_refl _) _)) hnb.out
        have Y2 := (((HB.out.alloc szr (.cells #[] 3)).alloc (by rw [asz]; omega) (.cells #[.slice (some ⟨wr.heap.size, 0, none⟩) 0 0] 22))).grown G2 (by simp only [asz]; omega) hown
        obtain ⟨C2, k2, rfl⟩ := own_nil O2
        obtain ⟨g2, rfl⟩ := own_form O2 (Nat.succ_pos k)
        have hql : (stf R k [] k).length ≤ 6 := by rw [stf_at]; simp
        clear O2 G2 hown hnb T1 hE
        have X2 := Lib.hid X2
        have Y2 := Lib.hid Y2
        clear HM HP HB t1 hv2 hkl
        obtain ⟨bT, hbT⟩ : ∃ bT, stf bs k wr.heap.size = bT := ⟨_, rfl⟩
        obtain ⟨kT, hkT⟩ : ∃ kT, stf ks k 0 = kT := ⟨_, rfl⟩
        obtain ⟨RT, hRT⟩ : ∃ RT, stf R k [] = RT := ⟨_, rfl⟩
        rw [hbT, hkT, hRT] at X2
        rw [hRT] at NX hql
        clear hbT hkT hRT
        have c1 : True := trivial
        have O1 := X2.out.row k (Nat.lt_succ_self k)
        have m1 : w2.cell? ⟨g2, k, none⟩ = some (.slice (some ⟨bT k, 0, none⟩) (RT k).length (kT k)) := by rw [X2.out.out.cellAt k (by omega), hdv_get _ _ _ _ _ (Nat.lt_succ_self k)]
        have f1 := X2.out.out.frozenAt k
        obtain ⟨r, hr⟩ : ∃ r, RT k = r := ⟨_, rfl⟩
        obtain ⟨L, hL⟩ : ∃ L, r.length = L := ⟨_, rfl⟩
        obtain ⟨b1, hb1⟩ : ∃ b1, bT k = b1 := ⟨_, rfl⟩
        obtain ⟨k1, hk1'⟩ : ∃ k1, kT k = k1 := ⟨_, rfl⟩
        have APP := Lib.hid (tob_last (x := v - 1) X2.out Y2.out hr hL hb1 hk1' w2 (Or.inl rfl))
        rw [hr, hL, hb1, hk1'] at O1 m1
        rw [hr, hL] at hql
        have sq : w.heap.size ≤ w2.heap.size := Y2.out.size
        have O1 := Lib.hid (O1.alloc (.cells #[.int .i64 (v - 1)] 3))
        clear hr hL hb1 hk1'
        go_wp2_with (at_builtin; refine wpList_append_lies _ rfl _ _ 22 rfl w.heap.size 3 i0 (.int .i64 0) 1 8 Try.underlying22 hi0 hz0 hz1 hz2 rfl (by decide) (.slice (some ⟨b1, 0, none⟩) L k1) L (r.map (Value.int .i64)) rfl O1.out ⟨w2.heap.size, 0, none⟩ 1 1 [.int .i64 (v - 1)] rfl rfl (cell_one_new _ _ _) (by intro u hu; simp at hu; subst hu; rfl) (by decide) (by unfold maxLen; omega) (by omega) (by rw [asz]; omega) (w2.heap.size + 1) (by rw [asz]) ?_)
        intro g5 c5 w5 O5 G5 L5 _
        obtain ⟨Z1, Z2, m5, f5⟩ := APP.out g5 c5 w5 O5 G5 L5
        have Z1 := Lib.hid Z1
        have Z2 := Lib.hid Z2
        clear O5 G5 L5 APP m1 f1
        go_wp2_with fail
        go_roundw
        case rel => exact ⟨j + 1, k + 1, _, _, _, _, _, rfl, by go_num, by omega, Z1, NX, Z2⟩
        case measure => simp [intOf]; omega
      · have t1 : decide (v - 1 < 1) = false := decide_eq_false (by omega)
        obtain ⟨q, rfl⟩ : ∃ q, k = q + 1 := ⟨k - 1, by have := hvk hv2; omega⟩
        have NX : Hid (prts zs (j + 1) = (q + 1, stf R q (R q ++ [v - 1]))) := Lib.hid (by rw [prts_old HP.out hvv hv2]; rfl)
        have hql : (R q).length ≤ 6 := by have := hkl.out q (Nat.lt_succ_self q); omega
        clear hvv HP hkl hv2
        have O1 := HM.out.row q (Nat.lt_succ_self q)
        have m1 : wr.cell? ⟨g, q, none⟩ = some (.slice (some ⟨bs q, 0, none⟩) (R q).length (ks q)) := by rw [HM.out.out.cellAt q (by omega), hdv_get _ _ _ _ _ (Nat.lt_succ_self q)]
        have f1 := HM.out.out.frozenAt q
        obtain ⟨r, hr⟩ : ∃ r, R q = r := ⟨_, rfl⟩
        obtain ⟨L, hL⟩ : ∃ L, r.length = L := ⟨_, rfl⟩
        obtain ⟨b1, hb1⟩ : ∃ b1, bs q = b1 := ⟨_, rfl⟩
        obtain ⟨k1, hk1'⟩ : ∃ k1, ks q = k1 := ⟨_, rfl⟩
        have APP := Lib.hid (tob_last (x := v - 1) HM.out HB.out hr hL hb1 hk1' wr (Or.inl rfl))
        rw [hr, hL, hb1, hk1'] at O1 m1
        rw [hr, hL] at hql
        have sq : w.heap.size ≤ wr.heap.size := HB.out.size
        have O1 := Lib.hid (O1.alloc (.cells #[.int .i64 (v - 1)] 3))
        clear hr hL hb1 hk1'
        go_wp2_with (at_builtin; refine wpList_append_lies _ rfl _ _ 22 rfl w.heap.size 3 i0 (.int .i64 0) 1 8 Try.underlying22 hi0 hz0 hz1 hz2 rfl (by decide) (.slice (some ⟨b1, 0, none⟩) L k1) L (r.map (Value.int .i64)) rfl O1.out ⟨wr.heap.size, 0, none⟩ 1 1 [.int .i64 (v - 1)] rfl rfl (cell_one_new _ _ _) (by intro u hu; simp at hu; subst hu; rfl) (by decide) (by unfold maxLen; omega) (by omega) (by rw [asz]; omega) (wr.heap.size + 1) (by rw [asz]) ?_)
        intro g5 c5 w5 O5 G5 L5 _
        obtain ⟨Z1, Z2, m5, f5⟩ := APP.out g5 c5 w5 O5 G5 L5
        have Z1 := Lib.hid Z1
        have Z2 := Lib.hid Z2
        clear O5 G5 L5 APP m1 f1
        go_wp2_with fail
        go_roundw
        case rel => exact ⟨j + 1, q + 1, _, _, _, _, _, rfl, by go_num, by omega, Z1, NX, Z2⟩
        case measure => simp [intOf]; omega
    · obtain rfl : j = m := by omega
      have e : Hid (k = k0 ∧ R = R0) := Lib.hid (by have q := HP.out.symm.trans hR0.out; exact ⟨congrArg Prod.fst q, congrArg Prod.snd q⟩)
      go_wp2_with fail
      go_ret
      obtain ⟨e1, e2⟩ := e.out
      subst e1
      subst e2
      exact ⟨g, cap, bs, ks, rfl, HM.out, HB.out⟩
end Go.Proofs.Ytojcnncaccnpeaa
