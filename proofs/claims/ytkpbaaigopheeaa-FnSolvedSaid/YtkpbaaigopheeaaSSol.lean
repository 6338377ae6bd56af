/- The contract of SolveSystem of the reference. -/
import Derived.Test.YtkpbaaigopheeaaSol
import Derived.Test.YtkpbaaigopheeaaSCi
import Derived.Deep.RegionLaw
namespace Go.Proofs.Ytkpbaaigopheeaa
open Go.RowKit Go.PlainNum

/-- headers of n rows of their own lengths -/
def hdv (n : Nat) (bs ks : Nat → Nat) (R : Nat → List Int) : List Value := (List.range n).map fun j => Value.slice (some ⟨bs j, 0, none⟩) (R j).length (ks j)
theorem hdv_len (n : Nat) (bs ks : Nat → Nat) (R : Nat → List Int) : (hdv n bs ks R).length = n := by simp [hdv]
theorem hdv_get (n : Nat) (bs ks : Nat → Nat) (R : Nat → List Int) (j : Nat) (hj : j < n) : (hdv n bs ks R)[j]? = some (Value.slice (some ⟨bs j, 0, none⟩) (R j).length (ks j)) := by simp [hdv, hj]
theorem hdv_set (n : Nat) (bs ks : Nat → Nat) (R : Nat → List Int) (i b c : Nat) (r : List Int) : (hdv n bs ks R).set i (Value.slice (some ⟨b, 0, none⟩) r.length c) = hdv n (put bs i b) (put ks i c) (put R i r) := by
  apply List.ext_getElem?
  intro j
  by_cases hj : j < n
  · by_cases hk : j = i
    · subst hk
      rw [List.getElem?_set_self (by simp [hdv, hj]), hdv_get _ _ _ _ _ hj, put_at, put_at, put_at]
    · rw [List.getElem?_set_ne (by omega), hdv_get _ _ _ _ _ hj, hdv_get _ _ _ _ _ hj]
      have e1 : put bs i b j = bs j := if_neg hk
      have e2 : put ks i c j = ks j := if_neg hk
      have e3 : put R i r j = R j := if_neg hk
      rw [e1, e2, e3]
  · rw [List.getElem?_eq_none (by simp [hdv]; omega), List.getElem?_eq_none (by simp [hdv]; omega)]

/-- a table of the call's own whose rows have lengths of their own -/
structure Tob (w : World) (base : Nat) (v : Value) (n : Nat) (bs ks : Nat → Nat) (R : Nat → List Int) : Prop where
  out : w.ownsRow base 25 1 v n (hdv n bs ks R)
  row : ∀ i, i < n → w.ownsRow base 3 1 (.slice (some ⟨bs i, 0, none⟩) (R i).length (ks i)) (R i).length ((R i).map (Value.int .i64))
  apart : ∀ i i', i < n → i' < n → i ≠ i' → bs i ≠ bs i'

theorem Bld.tob {w : World} {base n W : Nat} {v : Value} {bs ks : Nat → Nat} {R : Nat → List Int} (h : Bld w base v n W bs ks R) (hW : ∀ j, j < n → (R j).length = W) : Tob w base v n bs ks R := by
  refine ⟨?_, fun i hi => by rw [hW i hi]; exact h.row i hi, h.apart⟩
  have e : hdv n bs ks R = heads n W bs ks := by
    unfold hdv heads
    apply List.map_congr_left
    intro j hj
    rw [hW j (List.mem_range.1 hj)]
  rw [e]; exact h.out
theorem Tob.bld {w : World} {base n W : Nat} {v : Value} {bs ks : Nat → Nat} {R : Nat → List Int} (h : Tob w base v n bs ks R) (hW : ∀ j, j < n → (R j).length = W) : Bld w base v n W bs ks R := by
  refine ⟨?_, fun i hi => by rw [← hW i hi]; exact h.row i hi, h.apart⟩
  have e : hdv n bs ks R = heads n W bs ks := by
    unfold hdv heads
    apply List.map_congr_left
    intro j hj
    rw [hW j (List.mem_range.1 hj)]
  rw [← e]; exact h.out
theorem Tob.congr {w : World} {base n : Nat} {v : Value} {bs ks : Nat → Nat} {R R' : Nat → List Int} (h : Tob w base v n bs ks R) (e : ∀ i, i < n → R i = R' i) : Tob w base v n bs ks R' := by
  refine ⟨?_, fun i hi => by rw [← e i hi]; exact h.row i hi, h.apart⟩
  have : hdv n bs ks R' = hdv n bs ks R := by
    unfold hdv
    apply List.map_congr_left
    intro j hj
    rw [e j (List.mem_range.1 hj)]
  rw [this]; exact h.out
theorem Tob.below {w w' : World} {base n : Nat} {v : Value} {bs ks : Nat → Nat} {R : Nat → List Int} (h : Tob w base v n bs ks R) (hb : Below w.heap.size w w') : Tob w' base v n bs ks R :=
  ⟨own_below h.out hb, fun i hi => own_below (h.row i hi) hb, h.apart⟩
/-- row i is appended to, and its header laid anew -/
theorem Tob.app {w w2 : World} {base n g cap i g2 c2 : Nat} {bs ks : Nat → Nat} {R : Nat → List Int} {r : List Int} (h : Tob w base (.slice (some ⟨g, 0, none⟩) n cap) n bs ks R) (hi : i < n)
    (O2 : w2.ownsRow base 3 1 (.slice (some ⟨g2, 0, none⟩) r.length c2) r.length (r.map (Value.int .i64))) (G2 : w.grownBy w2 (Value.slice (some ⟨bs i, 0, none⟩) (R i).length (ks i)).ownBlock) (L2 : (Value.slice (some ⟨bs i, 0, none⟩) (R i).length (ks i)).ownBlock = some g2 ∨ g2 = w.heap.size) :
    Tob (w2.setCell ⟨g, i, none⟩ (.slice (some ⟨g2, 0, none⟩) r.length c2)) base (.slice (some ⟨g, 0, none⟩) n cap) n (put bs i g2) (put ks i c2) (put R i r) := by
  have ow : w2.ownsRow base 25 1 (.slice (some ⟨g, 0, none⟩) n cap) n (hdv n bs ks R) := own_grown h.out G2 (fun q hq => own_tags h.out (h.row i hi) (by decide) q hq)
  have S := ow.stored i (.slice (some ⟨g2, 0, none⟩) r.length c2)
  rw [hdv_set] at S
  have keep : ∀ {b c : Nat} {r : List Int} {W : Nat}, w2.ownsRow base 3 1 (.slice (some ⟨b, 0, none⟩) W c) W (r.map (Value.int .i64)) → World.ownsRow (w2.setCell ⟨g, i, none⟩ _) base 3 1 (.slice (some ⟨b, 0, none⟩) W c) W (r.map (Value.int .i64)) := fun q =>
    own_grown q S.2 (fun g' hg => own_tags q ow (by decide) g' hg)
  have lt : ∀ j, j < n → bs j < w.heap.size := fun j hj => (row_lt (h.row j hj)).2
  have ne : ∀ j, j < n → j ≠ i → bs j ≠ g2 := fun j hj hji => by
    rcases L2 with L2 | L2
    · simp only [Value.ownBlock, Option.some.injEq] at L2
      rw [← L2]
      exact h.apart j i hj hi hji
    · have := lt j hj; omega
  refine ⟨S.1, fun j hj => ?_, fun j j' hj hj' hne => ?_⟩
  · by_cases hji : j = i
    · subst hji; rw [put_at, put_at, put_at]; exact keep O2
    · have e1 : put bs i g2 j = bs j := if_neg hji
      have e2 : put ks i c2 j = ks j := if_neg hji
      have e3 : put R i r j = R j := if_neg hji
      rw [e1, e2, e3]
      exact keep (own_grown (h.row j hj) G2 (fun q hq => by
        simp only [Value.ownBlock, Option.some.injEq] at hq ⊢
        subst hq
        exact fun e => h.apart j i hj hi hji (Option.some.inj e).symm))
  · by_cases hji : j = i
    · subst hji
      have e1 : put bs j g2 j' = bs j' := if_neg (fun e => hne e.symm)
      rw [put_at, e1]
      exact fun e => ne j' hj' (fun q => hne q.symm) e.symm
    · have e1 : put bs i g2 j = bs j := if_neg hji
      rw [e1]
      by_cases hji' : j' = i
      · subst hji'; rw [put_at]; exact ne j hj hji
      · have e1 : put bs i g2 j' = bs j' := if_neg hji'
        rw [e1]; exact h.apart j j' hj hj' hne
/-- the rows while their right sides are appended -/
def mixR (Z : Nat → List Int) (zs : List Int) (i : Nat) : Nat → List Int := fun j => if j < i then wide Z zs j else Z j
theorem mixR_at (Z : Nat → List Int) (zs : List Int) (i : Nat) : mixR Z zs i i = Z i := if_neg (by omega)
theorem mixR_put (Z : Nat → List Int) (zs : List Int) (i j : Nat) : put (mixR Z zs i) i (wide Z zs i) j = mixR Z zs (i + 1) j := by
  unfold put mixR
  by_cases h : j = i
  · subst h; rw [if_pos rfl, if_pos (by omega)]
  · rw [if_neg h]
    by_cases h2 : j < i
    · rw [if_pos h2, if_pos (by omega)]
    · rw [if_neg h2, if_neg (by omega)]

set_option maxRecDepth 100000 in
set_option maxHeartbeats 16000000 in
theorem ssol_any (B : Nat) (A A' : Option Addr) (n c m d : Nat) (Z : Nat → List Int) (zs : List Int) (w : World) (h : RdT w B A n Z) (h' : Rd w B A' m zs) (hB : B ≤ w.heap.size) (hL : ∀ j, j < n → ((Z j).length : Int) ≤ 4000000) (hn : (n : Int) ≤ 4000000) (hm : (m : Int) ≤ 4000000) :
    Calls Try.prog 16 #[.slice A n c, .slice A' m d] w fun e w' => SolP w w' n Z zs e := by
  have hzl := h'.1
  obtain ⟨s, hs⟩ : ∃ s, sysOk n Z = s := ⟨_, rfl⟩
  have H := Lib.hid h
  have H' := Lib.hid h'
  have HS := Lib.hid hs
  have HL := Lib.hid hL
  clear h'
  cases s with
  | false =>
    have R := Lib.hid (solB_no (zs := zs) (eqOk_1 hs))
    clear h hs hL
    go_enter Try.func16, Try.ntmps16
    go_wp2_with (go_at_call 32; refine (l1Rows_eq B _ _ _ Z _ HS.out _ H.out HL.out (by omega)).mono ?_; rintro e w' ⟨rfl, a, rfl⟩)
    go_ret2
    exact solP_no R.out (bel_drewN (Below.refl _ _) _)
  | true =>
  by_cases hnm : n = m
  case neg =>
    have t1 : ((m : Int) != (n : Int)) = true := by rw [bne_iff_ne]; omega
    have R := Lib.hid (solB_no (eqOk_2 (Z := Z) (zs := zs) (by rw [hzl]; exact hnm)))
    clear h hs hL hzl
    go_enter Try.func16, Try.ntmps16
    go_wp2_with (go_at_call 32; refine (l1Rows_eq B _ _ _ Z _ HS.out _ H.out HL.out (by omega)).mono ?_; rintro e w' ⟨rfl, a, rfl⟩)
    go_ret2
    exact solP_no R.out (bel_drewN (Below.refl _ _) _)
  subst hnm
  have t1 : ((n : Int) != (n : Int)) = false := by simp
  obtain ⟨r, hr⟩ : ∃ r, allNum zs = r := ⟨_, rfl⟩
  have HR := Lib.hid hr
  have H'' : Hid (∀ a, Rd (w.drewN a) B A' n zs) := Lib.hid (fun a => H'.out.below (bel_drewN (Below.refl B w) a) (Nat.le_refl _))
  cases r with
  | false =>
    have R := Lib.hid (solB_no (eqOk_3 (n := n) (Z := Z) hr))
    clear h hs hL hzl hr
    go_enter Try.func16, Try.ntmps16
    go_wp2_with (first | (go_at_call 32; refine (l1Rows_eq B _ _ _ Z _ HS.out _ H.out HL.out (by omega)).mono ?_; rintro e w' ⟨rfl, a, rfl⟩) | (go_at_call 35; refine (l1All_eq B _ _ _ zs _ HR.out _ (H''.out _) (by omega)).mono ?_; rintro e w' ⟨rfl, rfl⟩))
    go_ret2
    exact solP_no R.out (bel_drewN (Below.refl _ _) _)
  | true =>
  have hE := eqOk_4 hs hzl.symm hr
  obtain ⟨hn1, hn2, hq⟩ := sysOk_is hs
  obtain ⟨W, hW0⟩ : ∃ W, (Z 0).length = W := ⟨_, rfl⟩
  have hW1 : 0 < W := by have := (hq 0 hn1).2.1; omega
  have hW2 : W ≤ 40 := by have := (hq 0 hn1).2.2.1; omega
  have hW : Hid (∀ j, j < n → (Z j).length = W) := Lib.hid (fun j hj => by rw [(hq j hj).1, hW0])
  have NM : Hid (Nm n (W + 1) (tabM (wide Z zs))) := Lib.hid (nm_wide hE hW0)
  obtain ⟨i0, hi0, hz0, hz1, hz2⟩ := info_parts infoInt
  obtain ⟨b, off, rfl, hb, hc⟩ := h hn1
  obtain ⟨rb, ro, rfl, hrb, hrc⟩ := H'.out.2 hn1
  obtain ⟨X0, k0, c0, -⟩ := hc 0 hn1
  rw [Nat.add_zero, hW0] at c0
  have hrc := Lib.hid hrc
  have hE := Lib.hid hE
  have hW0 := Lib.hid hW0
  clear h hq hs hL hzl hr hc
  go_enter Try.func16, Try.ntmps16
  go_wp2_with (first | (go_at_call 32; refine (l1Rows_eq B _ _ _ Z _ HS.out _ H.out HL.out (by omega)).mono ?_; rintro e w' ⟨rfl, a, rfl⟩) | (go_at_call 35; refine (l1All_eq B _ _ _ zs _ HR.out _ (H''.out _) (by omega)).mono ?_; rintro e w' ⟨rfl, rfl⟩) | (go_at_call 34; fail))
  refine (l1Copy_any B _ n _ W Z (w.drewN a) (show RdT (w.drewN a) B _ n Z from H.out) hB hn1 hn2 hW.out hW1 hW2).mono ?_
  rintro e w1 ⟨v1, bs1, ks1, rfl, HM1, HB1⟩
  obtain ⟨g, cap, rfl, -⟩ := HM1.mat hn1
  have HT1 := Lib.hid (HM1.tob hW.out)
  have HB1 := Lib.hid (show Below w.heap.size w w1 from (bel_drewN (Below.refl _ _) a).trans HB1)
  clear HM1
  have c0 := Lib.hid c0
  go_wp2_with fail
  go_loopw [8] (fun x wr => ∃ (i : Nat) (bs ks : Nat → Nat), x = .int .i64 i ∧ i ≤ n ∧ Hid (Tob wr w.heap.size (.slice (some ⟨g, 0, none⟩) n cap) n bs ks (mixR Z zs i)) ∧ Hid (Below w.heap.size w wr)) (fun x _ => n - (intOf x).toNat)
  case atStart => exact ⟨0, bs1, ks1, rfl, Nat.zero_le _, Lib.hid (HT1.out.congr (fun i _ => (if_neg (by omega)).symm)), HB1⟩
  case round =>
    obtain ⟨i, bs, ks, rfl, hik, HM, HB⟩ := hrel
    by_cases hlt : i < n
    · have m1 : wr.cell? ⟨g, i, none⟩ = some (.slice (some ⟨bs i, 0, none⟩) W (ks i)) := by
        rw [HM.out.out.cellAt i (by omega), hdv_get _ _ _ _ _ hlt, mixR_at, hW.out i hlt]
      obtain ⟨z, hz⟩ : ∃ z, zs.getD i 0 = z := ⟨_, rfl⟩
      have r1 : wr.cell? ⟨rb, ro + i, none⟩ = some (.int .i64 z) := ((HB.out.cell (p := ⟨rb, ro + i, none⟩) (show rb < w.heap.size by omega)).trans (hrc.out i hlt)).trans (by rw [hz])
      have O1 := HM.out.row i hlt
      rw [mixR_at, hW.out i hlt] at O1
      have hgl := (HM.out.out.lt g rfl)
      have hbl := (row_lt O1)
      obtain ⟨b1, hb1⟩ : ∃ b1, bs i = b1 := ⟨_, rfl⟩
      obtain ⟨k1, hk1⟩ : ∃ k1, ks i = k1 := ⟨_, rfl⟩
      rw [hb1] at hbl
      rw [hb1, hk1] at m1 O1
      have hgb : g ≠ b1 := fun e => own_tags O1 HM.out.out (by decide) b1 rfl (by rw [← e]; rfl)
      have APP : Hid (∀ g2 c2 w2, World.ownsRow w2 w.heap.size 3 1 (.slice (some ⟨g2, 0, none⟩) (W + 1) c2) (W + 1) ((Z i).map (Value.int .i64) ++ [Value.int .i64 z]) → (wr.drew.alloc (.cells #[.int .i64 z] 3)).grownBy w2 (Value.slice (some ⟨b1, 0, none⟩) W k1).ownBlock →
          ((Value.slice (some ⟨b1, 0, none⟩) W k1).ownBlock = some g2 ∨ g2 = wr.heap.size + 1) →
          Tob (w2.setCell ⟨g, i, none⟩ (.slice (some ⟨g2, 0, none⟩) (W + 1) c2)) w.heap.size (.slice (some ⟨g, 0, none⟩) n cap) n (put bs i g2) (put ks i c2) (mixR Z zs (i + 1)) ∧ Below w.heap.size w (w2.setCell ⟨g, i, none⟩ (.slice (some ⟨g2, 0, none⟩) (W + 1) c2)) ∧ w2.cell? ⟨g, i, none⟩ = some (.slice (some ⟨b1, 0, none⟩) W k1) ∧ w2.frozen? ⟨g, i, none⟩ = false ∧ w2.cell? ⟨rb, ro + i, none⟩ = some (.int .i64 z)) := Lib.hid (by
        intro g2 c2 w2 O2 G2 L2
        have al : Below wr.heap.size wr (wr.drew.alloc (.cells #[.int .i64 z] 3)) := (Below.refl _ wr).drew.alloc (Nat.le_refl _) _
        have hsz : (wr.drew.alloc (.cells #[.int .i64 z] 3)).heap.size = wr.heap.size + 1 := by rw [asz, dsz]
        have HM2 := HM.out.below al
        rw [wide_map Z zs i z hz] at O2
        have hl : (wide Z zs i).length = W + 1 := by rw [wide_len, hW.out i hlt]
        rw [← hl] at O2
        have X := HM2.app hlt O2 (by rw [mixR_at, hW.out i hlt, hb1, hk1]; exact G2) (by rw [mixR_at, hW.out i hlt, hb1, hk1, hsz]; exact L2)
        rw [hl] at X
        have B2 : Below w.heap.size wr w2 := (al.mono HB.out.size).grown G2 (by rw [hsz]; have := HB.out.size; omega) (fun q hq => by simp only [Value.ownBlock, Option.some.injEq] at hq; omega)
        refine ⟨X.congr (fun j _ => mixR_put Z zs i j), HB.out.trans (B2.setCell (p := ⟨g, i, none⟩) hgl.1 _), ?_, ?_, ?_⟩
        · exact (G2.cell_far ⟨g, i, none⟩ (by rw [hsz]; show g < _; omega) (by simp only [Value.ownBlock]; exact fun e => hgb (Option.some.inj e))).trans ((al.cell (p := ⟨g, i, none⟩) hgl.2).trans m1)
        · exact (G2.frozen_far ⟨g, i, none⟩ (by rw [hsz]; show g < _; omega) (by simp only [Value.ownBlock]; exact fun e => hgb (Option.some.inj e))).trans (HM2.out.frozenAt i)
        · exact (B2.cell (p := ⟨rb, ro + i, none⟩) (show rb < w.heap.size by omega)).trans r1)
      have O1' : Hid (World.ownsRow (wr.drew.alloc (.cells #[.int .i64 z] 3)) w.heap.size 3 1 (.slice (some ⟨b1, 0, none⟩) W k1) W ((Z i).map (Value.int .i64))) := Lib.hid (own_below O1 ((Below.refl _ wr).drew.alloc (Nat.le_refl _) _))
      have szr : w.heap.size ≤ wr.heap.size := HB.out.size
      have ne1 := World.new_ne wr _ m1
      have ne2 := World.new_ne wr _ r1
      clear O1 hb1 hk1 hz
      go_wp2_with fail
      go_region_law ((refine step_append_lies _ rfl (.tmp 44) (.tmp 49) 25 rfl w.heap.size 3 i0 (.int .i64 0) 1 8 Try.underlying25 hi0 hz0 hz1 hz2 rfl (by decide) (.slice (some ⟨b1, 0, none⟩) W k1) W ((Z i).map (Value.int .i64)) rfl O1'.out ⟨wr.heap.size, 0, none⟩ 1 1 [.int .i64 z] rfl rfl (cell_one_new wr.drew _ _) (int_one z) (by decide) (by unfold maxLen; omega) (by omega) (by simp only [asz, dsz]; omega) (wr.heap.size + 1) (by simp only [asz, dsz]) ?_; intro g2 c2 w2 O2 G2 L2 h2; obtain ⟨X1, X2, q1, f1, q2⟩ := APP.out g2 c2 w2 O2 G2 L2; have X1 := Lib.hid X1; have X2 := Lib.hid X2; clear O2 G2 L2))
      all_goals (
        go_wp2_with fail
        go_roundw)
      all_goals first | exact ⟨i + 1, _, _, by go_num, by omega, X1, X2⟩ | (simp [intOf]; omega)
    · obtain rfl : i = n := by omega
      have HM2 := Lib.hid ((HM.out.congr (R' := wide Z zs) (fun j hj => if_pos hj)).bld (W := W + 1) (fun j hj => by rw [wide_len, hW.out j hj]))
      obtain ⟨g', cap', e, HT⟩ := HM2.out.mat hn1
      simp only [Value.slice.injEq, true_and, Option.some.injEq, Addr.mk.injEq, and_true] at e
      obtain ⟨rfl, rfl⟩ := e
      have HT : Hid (Mat wr w.heap.size wr.heap.size g i (W + 1) bs ks (tabM (wide Z zs))) := Lib.hid (by unfold tabM; exact HT)
      clear HM2
      obtain ⟨⟨pv, M'⟩, hg⟩ : ∃ s, gau i (W + 1) (tabM (wide Z zs)) W = s := ⟨_, rfl⟩
      have RD : Hid (Rdf i W (pv, M')) := Lib.hid (hg ▸ gau_rdf NM.out W (by omega))
      obtain ⟨t, ht⟩ : ∃ t, pv.length = t := ⟨_, rfl⟩
      have htk : t ≤ i := by rw [← ht]; exact RD.out.len
      have hg := Lib.hid hg
      have ht := Lib.hid ht
      have szr : w.heap.size ≤ wr.heap.size := HB.out.size
      have bad : Hid (∀ a, a < i → t ≤ a → M' a W ≠ 0 → solB i Z zs = false) := Lib.hid (fun a h1 h2 h3 => solB_bad hW0.out hg.out a h1 (by rw [ht.out]; exact h2) h3)
      have good : Hid ((∀ a, a < i → t ≤ a → M' a W = 0) → solB i Z zs = true ∧ solX i Z zs = outL pv M' W t) := Lib.hid (fun h => by
        have q := solB_good hE.out hW0.out hg.out (by rw [ht.out]; exact h)
        rw [ht.out] at q
        unfold outL
        exact q)
      go_wp2_with fail
      refine (sred_tab g i _ (W + 1) W w.heap.size t bs ks _ M' pv hg.out ht.out wr HT.out NM.out hn1 (by omega) (by omega) (by omega)).mono ?_
      rintro e w5 ⟨Ap, cp, bs5, ks5, rfl, OP, MP, B5⟩
      have B5w := Lib.hid (HB.out.trans B5)
      have sz5 : wr.heap.size ≤ w5.heap.size := B5.size
      clear B5 HM HT
      go_wp2_with (at_make; refine wpList_make_full _ rfl _ _ 25 rfl w5.heap.size 3 i0 (.int .i64 0) 1 Try.underlying25 hi0 hz0 hz1 _ _ _ _ W rfl rfl rfl rfl (by rw [hz2]; omega) (by unfold maxLen; omega) (Nat.le_refl _) ?_)
      intro w6 hown hg6
      have B6 := Lib.hid (show Below w5.heap.size w5 w6 from (Below.refl _ _).grown hg6 (Nat.le_refl _) (by intro i hk; cases hk))
      have O6 : Hid (w6.ownsRow w5.heap.size 3 1 (.slice (some ⟨w5.heap.size, 0, none⟩) W W) W ((outL pv M' W 0).map (Value.int .i64))) := Lib.hid (by
        rw [outL_zero]
        simpa [toList_madeCells_one, Value.cells] using hown)
      clear hown hg6
      go_wp2_with fail
      go_loopw [11] (fun x w7 => ∃ y q : Nat, x = .int .i64 y ∧ y ≤ i ∧ Hid (q = min y t) ∧ Hid (w7.ownsRow w5.heap.size 3 1 (.slice (some ⟨w5.heap.size, 0, none⟩) W W) W ((outL pv M' W q).map (Value.int .i64))) ∧ Hid (Below w5.heap.size w5 w7) ∧ Hid (∀ a, a < y → t ≤ a → M' a W = 0)) (fun x _ => i - (intOf x).toNat)
      case atStart => exact ⟨0, 0, rfl, Nat.zero_le _, Lib.hid (by omega), O6, B6, Lib.hid (fun a ha => absurd ha (by omega))⟩
      case round =>
        obtain ⟨y, q, rfl, hik, hqq, O7, B7, E⟩ := hrel
        by_cases hi : y < i
        · have m7 : wr.cell? ⟨g, y, none⟩ = some (.slice (some ⟨bs5 y, 0, none⟩) (W + 1) (ks5 y)) := (B7.out.cell (p := ⟨g, y, none⟩) (show g < w5.heap.size by have := MP.out.lo.1; omega)).trans (MP.out.out y hi)
          have r7 : wr.cell? ⟨bs5 y, W, none⟩ = some (.int .i64 (M' y W)) := (B7.out.cell (p := ⟨bs5 y, W, none⟩) (show bs5 y < w5.heap.size by have := MP.out.lo.2 y hi; omega)).trans (MP.out.row y W hi (by omega))
          obtain ⟨v, hv⟩ : ∃ v, M' y W = v := ⟨_, rfl⟩
          rw [hv] at r7
          by_cases hit : y < t
          · obtain ⟨gp, rfl⟩ := own_form OP.out (by omega)
            have hp := RD.out.lt y (by rw [ht.out]; exact hit)
            have p7 : wr.cell? ⟨gp, y, none⟩ = some (.int .i64 ((pv.getD y 0 : Nat) : Int)) := (B7.out.cell (p := ⟨gp, y, none⟩) (OP.out.lt gp rfl).2).trans (by
              rw [OP.out.cellAt y (by omega), List.getElem?_map]
              have hl := ht.out
              rw [List.getElem?_eq_getElem (by omega)]
              simp [List.getD, List.getElem?_eq_getElem (show y < pv.length by omega)])
            obtain ⟨p, hpp⟩ : ∃ p, pv.getD y 0 = p := ⟨_, rfl⟩
            have hp : p < W := by rw [← hpp]; exact hp
            have hqi : q = y := by have := hqq.out; omega
            subst hqi
            have S := (show World.ownsRow wr.drew w5.heap.size 3 1 (.slice (some ⟨w5.heap.size, 0, none⟩) W W) W ((outL pv M' W q).map (Value.int .i64)) from O7.out).stored p (.int .i64 v)
            rw [← List.map_set, ← hv, ← hpp, outL_set, hpp, hv] at S
            have c7 := O7.out.cellAt p (by omega)
            have f7 := O7.out.frozenAt p
            rw [List.getElem?_eq_getElem (by simp [outL_len]; omega)] at c7
            obtain ⟨u, hu⟩ : ∃ u, ((outL pv M' W q).map (Value.int .i64))[p]'(by simp [outL_len]; omega) = u := ⟨_, rfl⟩
            rw [hu] at c7
            rw [hpp] at p7
            have X5 := Lib.hid (show ∀ wd, wd = wr.drew → World.ownsRow (wd.setCell ⟨w5.heap.size, p, none⟩ (.int .i64 v)) w5.heap.size 3 1 (.slice (some ⟨w5.heap.size, 0, none⟩) W W) W ((outL pv M' W (q + 1)).map (Value.int .i64)) ∧ Below w5.heap.size w5 (wd.setCell ⟨w5.heap.size, p, none⟩ (.int .i64 v)) ∧ wd.cell? ⟨w5.heap.size, p, none⟩ = some u ∧ wd.frozen? ⟨w5.heap.size, p, none⟩ = false from by
              rintro wd rfl
              exact ⟨S.1, B7.out.drew.setCell (p := ⟨w5.heap.size, p, none⟩) (Nat.le_refl _) _, c7, f7⟩)
            clear S hu c7 f7 hpp hv
            obtain ⟨V, hV⟩ : ∃ V, W + 1 = V := ⟨_, rfl⟩
            rw [hV] at m7
            have hWV : W < V := by omega
            clear hV
            go_wp2_with fail
            go_still_tail 13, (by kernel_rfl)
            change wpList _ _ _ _ _ wr.drew
            generalize hwd : wr.drew = wd
            obtain ⟨Y1, Y2, Y3, Y4⟩ := X5.out wd hwd.symm
            clear hwd
            have Y1 := Lib.hid Y1
            have Y2 := Lib.hid Y2
            go_wp2_with fail
            go_roundw
            case rel => exact ⟨q + 1, q + 1, by go_num, by omega, Lib.hid (by omega), Y1, Y2, Lib.hid (fun a h1 h2 => absurd h1 (by omega))⟩
            case measure => simp [intOf]; omega
          · have hqi : q = t := by have := hqq.out; omega
            subst hqi
            by_cases hv0 : v = 0
            · subst hv0
              have E' : Hid (∀ a, a < y + 1 → q ≤ a → M' a W = 0) := Lib.hid (fun a h1 h2 => by
                rcases Nat.lt_or_ge a y with h3 | h3
                · exact E.out a h3 h2
                · obtain rfl : a = y := by omega
                  exact hv)
              clear hv
              go_wp2_with fail
              go_roundw
              case rel => exact ⟨y + 1, q, by go_num, by omega, Lib.hid (by omega), O7, B7, E'⟩
              case measure => simp [intOf]; omega
            · have t3 : (v != 0) = true := by rw [bne_iff_ne]; exact hv0
              have R := Lib.hid (bad.out y hi (by omega) (by rw [hv]; exact hv0))
              have BZ := Lib.hid (B5w.out.trans (B7.out.mono (by omega)))
              clear hv
              go_wp2_with fail
              go_ret2
              exact solP_no R.out BZ.out
        · obtain rfl : y = i := by omega
          have hqi : q = t := by have := hqq.out; omega
          subst hqi
          obtain ⟨G1, G2⟩ := good.out E.out
          have R := Lib.hid (solP_yes G1 G2 (outL_len _ _ _ _) (own_lower O7.out (show w.heap.size ≤ w5.heap.size by omega)) (B5w.out.trans (B7.out.mono (by omega))))
          clear G1 G2
          go_wp2_with fail
          go_ret2
          exact R.out
end Go.Proofs.Ytkpbaaigopheeaa
