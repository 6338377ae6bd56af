/- The contracts of the copy of a series and of ScaleSeries, of the reference. -/
import Derived.Test.YtajalndghbbfdaaDoorScale
import Derived.Test.YtajalndghbbfdaaDoorApp
import Derived.Deep.RegionHeldLaw
namespace Go.Proofs.YtajalndghbbfdaaDoor
open Go.RowKit Go.PlainNum

theorem own_val {w : World} {base n : Nat} {e : TypeId} {v : Value} {xs : List Value} (h : w.ownsRow base e 1 v n xs) : ∃ A cap, v = .slice A n cap := by
  rcases h.2 with ⟨hv, h0⟩ | ⟨g, cap', cur, hv, _⟩
  · exact ⟨none, 0, by rw [hv, h0]⟩
  · exact ⟨_, _, hv⟩

set_option maxRecDepth 100000 in
set_option maxHeartbeats 1000000 in
theorem l4Copy_any (o u : Int) (A : Option Addr) (n c : Nat) (zs : List Int) (w : World) (h : Rd w w.heap.size A n zs) (hA : A = none → c = 0) (hn : (n : Int) ≤ 2000000) :
    Calls Tryd.prog 41 #[.agg #[.int .i64 o, .int .i64 u, .slice A n c]] w (Ser o u zs w) := by
  obtain ⟨i0, hi, hz0, hz1, hz2⟩ := info_parts infoInt
  have H := Lib.hid h
  have HA := Lib.hid hA
  clear h hA
  go_enter Tryd.func41, Tryd.ntmps41
  go_wp2_with fail
  have OW : ∀ o1 o2, (((w.alloc o1).alloc o2).alloc (.cells #[] 3)).ownsRow (w.heap.size + 2) 3 1 (.slice (some ⟨w.heap.size + 2, 0, none⟩) 0 0) 0 [] := fun o1 o2 => by
    simpa using World.ownsRow_lit (base := w.heap.size + 2) (e := 3) (size := 1) ((w.alloc o1).alloc o2) #[] 0 (by simp) (by unfold maxLen; omega) rfl
  have OR : ∀ o1 o2 o3, Rd (((w.alloc o1).alloc o2).alloc o3) w.heap.size A n zs := fun o1 o2 o3 =>
    H.out.below ((((Below.refl _ _).alloc (Nat.le_refl _) _).alloc (by simp) _).alloc (by simp; omega) _) (Nat.le_refl _)
  have X1 : ∀ o1 o2 o3 w1 A0, (((w.alloc o1).alloc o2).alloc o3).drew.grownBy w1 (Value.slice (some ⟨w.heap.size + 2, 0, none⟩) 0 0).ownBlock → A0 = w.heap.size → Below w.heap.size w w1 := fun o1 o2 o3 w1 A0 hg _ =>
    ((((Below.refl _ _).alloc (Nat.le_refl _) _).alloc (by simp) _).alloc (by simp; omega) _).drew.grown hg (by simp; omega) (by intro k hk; simp [Value.ownBlock] at hk; omega)
  have U1 : ∀ o1 o3 w1, (((w.alloc o1).alloc (.cells #[.int .i64 0, .int .i64 0, .slice none 0 0] 24)).alloc o3).drew.grownBy w1 (Value.slice (some ⟨w.heap.size + 2, 0, none⟩) 0 0).ownBlock → Three w1 (w.heap.size + 1) 24 (.int .i64 0) (.int .i64 0) (.slice none 0 0) := fun o1 o3 w1 hg => by
    have t := ((Three.new (w.alloc o1) 24 (.int .i64 0) (.int .i64 0) (.slice none 0 0)).below ((Below.refl _ _).alloc (Nat.le_refl _) o3) (by simp))
    rw [show (w.alloc o1).heap.size = w.heap.size + 1 by simp] at t
    exact (⟨t.blk⟩ : Three (World.drew _) _ _ _ _ _).grown hg (by simp [Value.ownBlock])
  have U0 : ∀ o2 o3 w1, (((w.alloc (.cells #[.int .i64 o, .int .i64 u, .slice A n c] 24)).alloc o2).alloc o3).drew.grownBy w1 (Value.slice (some ⟨w.heap.size + 2, 0, none⟩) 0 0).ownBlock → Three w1 w.heap.size 24 (.int .i64 o) (.int .i64 u) (.slice A n c) := fun o2 o3 w1 hg => by
    have t := ((Three.new w 24 (.int .i64 o) (.int .i64 u) (.slice A n c)).below (((Below.refl _ _).alloc (Nat.le_refl _) o2).alloc (by simp) o3) (by simp))
    exact (⟨t.blk⟩ : Three (World.drew _) _ _ _ _ _).grown hg (by simp [Value.ownBlock])
  have OW := Lib.hid OW
  have OR := Lib.hid OR
  have X1 := Lib.hid X1
  have U1 := Lib.hid U1
  have U0 := Lib.hid U0
  go_region_held_law (fun w' => w'.cell? ⟨w.heap.size, 0, none⟩ = some (.int .i64 o) ∧ w'.cell? ⟨w.heap.size, 1, none⟩ = some (.int .i64 u) ∧ w'.cell? ⟨w.heap.size, 2, none⟩ = some (.slice A n c)) (go_keep) ((refine step_append_rd rfl (.tmp 7) (.tmp 9) 22 rfl (w.heap.size + 2) 3 i0 (.int .i64 0) 8 Tryd.underlying22 hi hz0 hz1 hz2 rfl (.slice (some ⟨w.heap.size + 2, 0, none⟩) 0 0) 0 [] rfl (OW.out _ _) A n c zs w.heap.size rfl (OR.out _ _ _) HA.out (by unfold maxLen; omega) (by omega) (by simp) ?_; intro v1 w1 O1 G1; obtain ⟨A1, c1, rfl⟩ := own_val O1; have T0 := U0.out _ _ _ G1; have T1 := U1.out _ _ _ G1; have Y1 := Lib.hid (X1.out _ _ _ _ _ G1 rfl); have a0 := T0.c0; have a1 := T0.c1; have a2 := T0.c2; have b0 := T1.c0; have b1 := T1.c1; have b2 := T1.c2; have f0 := T1.f 0; have f1 := T1.f 1; have f2 := T1.f 2; have O1 := Lib.hid O1; clear G1 T0 T1))
  rw [Nat.zero_add, List.nil_append] at O1
  go_wp2_with fail
  refine bodyPost_ret (v := .agg #[.int .i64 o, .int .i64 u, .slice A1 n c1]) (by simp [results, Tryd.results41, go_sem, b0, b1, b2]) rfl ?_
  refine ser_mk H.out.1 ?_ (bel_three (s := w.heap.size + 1) Y1.out (by omega))
  exact own_base (own_three (s := w.heap.size + 1) O1.out (by omega)) (by omega)

theorem scT_len (o u : Int) (zs : List Int) (k : Int) : (scT o u zs k).length ≤ 4000 := by
  cases hs : serOk o u zs
  · rw [scT_no hs]; simp
  · rw [scT_yes hs]
    obtain ⟨⟨ho, ho6⟩, _, hl, _⟩ := serOk_spec hs
    obtain ⟨m, rfl⟩ := Int.eq_ofNat_of_zero_le ho
    rw [ctn_yes m (by omega)] at hl
    have := ct_le m
    simp; omega
/-- a row of which the first j are done -/
theorem sc_get (zs : List Int) (k : Int) (j : Nat) (h : j < zs.length) : (zs.map (fun z => res (z * k))).getD j 0 = res (zs.getD j 0 * k) := by
  simp [List.getElem?_eq_getElem h]

/-- the world of ScaleSeries of the reference while its loop runs -/
structure ScS (w : World) (o u v : Int) (A D : Option Addr) (n c e tb : Nat) (xs zs : List Int) (w9 : World) : Prop where
  ta : Three w9 w.heap.size 24 (.int .i64 o) (.int .i64 u) (.slice A n c)
  tr : Three w9 (w.heap.size + 1) 24 (.int .i64 0) (.int .i64 0) (.slice none 0 0)
  to : Three w9 tb 24 (.int .i64 o) (.int .i64 v) (.slice D n e)
  own : w9.ownsRow (w.heap.size + 2) 3 1 (.slice D n e) n (zs.map (Value.int .i64))
  ne : some tb ≠ (Value.slice D n e).ownBlock
  ra : Rd w9 w.heap.size A n xs
  bel : Below w.heap.size w w9

theorem ScS.stored {w : World} {o u v : Int} {A D : Option Addr} {n c e tb : Nat} {xs zs zs' : List Int} {w9 w9' : World} (h : ScS w o u v A D n c e tb xs zs w9)
    (ho : w9'.ownsRow (w.heap.size + 2) 3 1 (.slice D n e) n (zs'.map (Value.int .i64))) (hg : w9.grownBy w9' (Value.slice D n e).ownBlock) : ScS w o u v A D n c e tb xs zs' w9' where
  ta := h.ta.grown hg (fun q => by have := (h.own.lt _ q.symm).1; omega)
  tr := h.tr.grown hg (fun q => by have := (h.own.lt _ q.symm).1; omega)
  to := h.to.grown hg h.ne
  own := ho
  ne := h.ne
  ra := h.ra.grown hg (fun g q => by have := (h.own.lt _ q).1; omega)
  bel := h.bel.grown hg h.bel.size (fun g q => by have := (h.own.lt _ q).1; omega)

theorem ScS.drew {w : World} {o u v : Int} {A D : Option Addr} {n c e tb : Nat} {xs zs : List Int} {w9 : World} (h : ScS w o u v A D n c e tb xs zs w9) : ScS w o u v A D n c e tb xs zs w9.drew :=
  ⟨⟨h.ta.blk⟩, ⟨h.tr.blk⟩, ⟨h.to.blk⟩, h.own, h.ne, h.ra, h.bel.drew⟩

set_option maxRecDepth 100000 in
set_option maxHeartbeats 1000000 in
theorem sscale_any (o u : Int) (A : Option Addr) (n c : Nat) (zs : List Int) (k : Int) (w : World) (h : Rd w w.heap.size A n zs) (hA : A = none → c = 0) (hn : (n : Int) ≤ 2000000) :
    Calls Tryd.prog 21 #[.agg #[.int .i64 o, .int .i64 u, .slice A n c], .int .i64 k] w (Ser (scO o u zs) (scU o u zs k) (scT o u zs k) w) := by
  have H := Lib.hid h
  have HA := Lib.hid hA
  clear h hA
  cases hs : serOk o u zs
  · rw [scO_no hs, scU_no hs, scT_no hs]
    go_enter Tryd.func21, Tryd.ntmps21
    go_wp2_with fail
    refine (sserOk_any o u A n c zs _ ((H.out.alloc _).alloc _) (by omega)).mono ?_
    rintro e w1 ⟨rfl, B1⟩
    have T1 : Three w1 w.heap.size 24 (.int .i64 o) (.int .i64 u) (.slice A n c) := by
      simpa using ((Three.new w 24 (.int .i64 o) (.int .i64 u) (.slice A n c)).below ((Below.refl _ _).alloc (Nat.le_refl _) _) (by simp)).below B1 (by simp; omega)
    have T2 : Three w1 (w.heap.size + 1) 24 (.int .i64 0) (.int .i64 0) (.slice none 0 0) := by
      simpa using (Three.new (w.alloc _) 24 (.int .i64 0) (.int .i64 0) (.slice none 0 0)).below B1 (by simp)
    have s1 : w.heap.size + 2 ≤ w1.heap.size := by have := B1.size; simpa using this
    have X1 : Below w.heap.size w w1 := (((Below.refl _ _).alloc (Nat.le_refl _) _).alloc (by simp) _).trans (B1.mono (by simp; omega))
    have R1 := Lib.hid (((H.out.alloc _).alloc _).below B1 (Nat.le_refl _) |>.mono B1.size)
    have a0 := T1.c0
    have a1 := T1.c1
    have a2 := T1.c2
    have b0 := T2.c0
    have b1 := T2.c1
    have b2 := T2.c2
    have f0 := T2.f 0
    have f1 := T2.f 1
    have f2 := T2.f 2
    clear T1
    rw [hs]
    go_wp2_with fail
    refine bodyPost_ret (v := .agg #[.int .i64 0, .int .i64 0, .slice none 0 0]) (by simp [results, Tryd.results21, go_sem, b0, b1, b2]) rfl ?_
    exact ser_mk (n := 0) rfl (World.ownsRow_nil _ _ _ _) (bel_three (s := w.heap.size + 1) X1 (by omega))
  · rw [scO_yes hs, scU_yes hs, scT_yes hs]
    go_enter Tryd.func21, Tryd.ntmps21
    go_wp2_with fail
    refine (sserOk_any o u A n c zs _ ((H.out.alloc _).alloc _) (by omega)).mono ?_
    rintro e w1 ⟨rfl, B1⟩
    have T1 : Three w1 w.heap.size 24 (.int .i64 o) (.int .i64 u) (.slice A n c) := by
      simpa using ((Three.new w 24 (.int .i64 o) (.int .i64 u) (.slice A n c)).below ((Below.refl _ _).alloc (Nat.le_refl _) _) (by simp)).below B1 (by simp; omega)
    have T2 : Three w1 (w.heap.size + 1) 24 (.int .i64 0) (.int .i64 0) (.slice none 0 0) := by
      simpa using (Three.new (w.alloc _) 24 (.int .i64 0) (.int .i64 0) (.slice none 0 0)).below B1 (by simp)
    have s1 : w.heap.size + 2 ≤ w1.heap.size := by have := B1.size; simpa using this
    have X1 : Below w.heap.size w w1 := (((Below.refl _ _).alloc (Nat.le_refl _) _).alloc (by simp) _).trans (B1.mono (by simp; omega))
    have R1 := Lib.hid (((H.out.alloc _).alloc _).below B1 (Nat.le_refl _) |>.mono B1.size)
    have a0 := T1.c0
    have a1 := T1.c1
    have a2 := T1.c2
    have b0 := T2.c0
    have b1 := T2.c1
    have b2 := T2.c2
    have f0 := T2.f 0
    have f1 := T2.f 1
    have f2 := T2.f 2
    rw [hs]
    clear f0 f1 f2
    go_wp2_with fail
    refine (l4Copy_any o u A n c zs _ R1.out HA.out (by omega)).mono ?_
    rintro e w2 ⟨A2, c2, rfl, O2, B2⟩
    have hl := Lib.hid H.out.1
    rw [hl.out] at O2 ⊢
    have T1 := Lib.hid (T1.below B2 (by omega))
    have T2 := Lib.hid (T2.below B2 (by omega))
    have X2 := Lib.hid (X1.trans (B2.mono (by omega)))
    have R2 := Lib.hid (R1.out.below B2 (Nat.le_refl _) |>.mono B2.size)
    have s2 := B2.size
    have O2 := Lib.hid O2
    clear a0 a1 a2 b0 b1 b2
    have a0 := T1.out.c0
    have a1 := T1.out.c1
    have a2 := T1.out.c2
    have b0 := T2.out.c0
    have b1 := T2.out.c1
    have b2 := T2.out.c2
    have s02 : w.heap.size < w2.heap.size := by omega
    have s12 : w.heap.size + 1 < w2.heap.size := by omega
    go_wp2_with (go_at_call 42; refine (stimes_any _ _ _).mono ?_; rintro e w' ⟨rfl, rfl⟩)
    have M : ScS w o u (res (u * k)) A A2 n c c2 w2.heap.size zs zs (w2.alloc (.cells #[.int .i64 o, .int .i64 (res (u * k)), .slice A2 n c2] 24)) := by
      have al : Below w2.heap.size w2 (w2.alloc (.cells #[.int .i64 o, .int .i64 (res (u * k)), .slice A2 n c2] 24)) := (Below.refl _ _).alloc (Nat.le_refl _) _
      exact ⟨T1.out.below al (by omega), T2.out.below al (by omega), Three.new _ _ _ _ _, own_base (O2.out.alloc _) (by omega), fun q => by have := (O2.out.lt _ q.symm).2; omega,
        H.out.below (X2.out.alloc (by omega) _) (Nat.le_refl _), X2.out.alloc (by omega) _⟩
    generalize hw9 : World.alloc _ _ = w9 at M ⊢
    generalize htb : w2.heap.size = tb at M ⊢
    have M : ScS w o u (res (u * k)) A A2 n c c2 tb zs (prt (zs.map (fun z => res (z * k))) zs 0 n) w9 := by rw [prt_zero _ _ _ hl.out]; exact M
    clear hw9 htb
    go_loopw [6] (fun i wr => ∃ j : Nat, i = .int .i64 j ∧ j ≤ n ∧ ScS w o u (res (u * k)) A A2 n c c2 tb zs (prt (zs.map (fun z => res (z * k))) zs j n) wr)
      (fun i _ => n - (intOf i).toNat)
    case atStart => exact ⟨0, rfl, Nat.zero_le _, M⟩
    case round =>
      rename_i wr _
      obtain ⟨j, rfl, hj, M⟩ := hrel
      by_cases hlt : j < n
      · have Md := M.drew
        obtain ⟨g, rfl⟩ := own_form M.own (by omega)
        obtain ⟨ba, oa, rfl, hba, hca⟩ := M.ra.2 (by omega)
        have hg := (M.own.lt g rfl).1
        have n1 : g ≠ ba := by omega
        have n3 : g ≠ tb := fun q => M.ne (by rw [← q]; rfl)
        have n4 : g ≠ w.heap.size := by omega
        have m1 := n1.symm
        have m3 := n3.symm
        have m4 := n4.symm
        have ea := hca j hlt
        have p0 := M.to.c2
        have p1 := M.ta.c2
        have e1 : (prt (zs.map (fun z => res (z * k))) zs j n).set j (res (zs.getD j 0 * k)) = prt (zs.map (fun z => res (z * k))) zs (j + 1) n := by rw [← sc_get zs k j (by rw [hl.out]; exact hlt), prt_set]
        have S := Md.own.stored j (.int .i64 (res (zs.getD j 0 * k)))
        have f2 := M.own.frozenAt j
        have q2 := M.own.cellAt j (by omega)
        rw [List.getElem?_eq_getElem (by simp [prt_len]; omega)] at q2
        obtain ⟨x, hx2⟩ : ∃ x, ((prt (zs.map (fun z => res (z * k))) zs j n).map (Value.int .i64))[j]'(by simp [prt_len]; omega) = x := ⟨_, rfl⟩
        rw [hx2] at q2
        rw [← List.map_set, e1] at S
        have M1 := Lib.hid (Md.stored S.1 S.2)
        clear e1 S hx2 hca M Md
        go_wp2_with fail
        go_region_held3 (fun w' => w'.cell? ⟨tb, 2, none⟩ = some (.slice (some ⟨g, 0, none⟩) n c2) ∧ w'.cell? ⟨w.heap.size, 2, none⟩ = some (.slice (some ⟨ba, oa, none⟩) n c) ∧ w'.cell? ⟨ba, oa + j, none⟩ = some (.int .i64 (zs.getD j 0))) (go_keep) ((go_at_call 42; refine (stimes_any _ _ _).mono ?_; rintro e w' ⟨rfl, rfl⟩))
        go_wp2_with fail
        go_roundw
        case rel => exact ⟨j + 1, by go_num, by omega, M1.out⟩
        case measure => simp [intOf]; omega
      · obtain rfl : j = n := by omega
        rw [prt_full _ _ _ (by simp [hl.out])] at M
        have p0 := M.to.c0
        have p1 := M.to.c1
        have p2 := M.to.c2
        have y0 := M.tr.c0
        have y1 := M.tr.c1
        have y2 := M.tr.c2
        have f0 := M.tr.f 0
        have f1 := M.tr.f 1
        have f2 := M.tr.f 2
        replace M := Lib.hid M
        go_wp2_with fail
        refine bodyPost_ret (v := .agg #[.int .i64 o, .int .i64 (res (u * k)), .slice A2 j c2]) (by simp [results, Tryd.results21, go_sem, y0, y1, y2]) rfl ?_
        refine ser_mk (by simp [hl.out]) ?_ (bel_three (s := w.heap.size + 1) M.out.bel (by omega))
        exact own_base (own_three (s := w.heap.size + 1) M.out.own (by omega)) (by omega)
end Go.Proofs.YtajalndghbbfdaaDoor
