/- The contract of TruncateSeries of the reference. -/
import Derived.Test.YtajalndghbbfdaaDoorTrunc
import Derived.Deep.RegionHeldLaw
namespace Go.Proofs.YtajalndghbbfdaaDoor
open Go.RowKit Go.PlainNum

theorem scount_m (k m : Nat) (hk : ctn k = (m : Int)) (w : World) :
    Calls Tryd.prog 32 #[.int .i64 k] w fun e w' => e = .returned (.int .i64 (m : Int)) ∧ Below w.heap.size w w' := by
  rw [← hk]
  exact scount_any k w
theorem own_empty (w : World) (b : Nat) (hb : b ≤ w.heap.size) : (w.alloc (.cells #[] 3)).ownsRow b 3 1 (.slice (some ⟨w.heap.size, 0, none⟩) 0 0) 0 [] :=
  World.ownsRow_lit w #[] 0 hb (by unfold maxLen; omega) rfl

/-- what the append of TruncateSeries of the reference finds -/
structure TrS (w : World) (q u : Int) (A : Option Addr) (n c m l : Nat) (xs : List Int) (w9 : World) : Prop where
  ta : Three w9 w.heap.size 24 (.int .i64 q) (.int .i64 u) (.slice A n c)
  tr : Three w9 (w.heap.size + 1) 24 (.int .i64 0) (.int .i64 0) (.slice none 0 0)
  own : w9.ownsRow (w.heap.size + 2) 3 1 (.slice (some ⟨l, 0, none⟩) 0 0) 0 []
  ra : Rd w9 w9.heap.size A m xs
  bel : Below w.heap.size w w9
  lo : w.heap.size + 2 ≤ l
  hi : w.heap.size + 2 ≤ w9.heap.size
theorem TrS.after {w : World} {q u : Int} {A : Option Addr} {n c m l : Nat} {xs : List Int} {w9 w' : World} (h : TrS w q u A n c m l xs w9) (hg : w9.grownBy w' (Value.slice (some ⟨l, 0, none⟩) 0 0).ownBlock) :
    Three w' w.heap.size 24 (.int .i64 q) (.int .i64 u) (.slice A n c) ∧ Three w' (w.heap.size + 1) 24 (.int .i64 0) (.int .i64 0) (.slice none 0 0) ∧ Below w.heap.size w w' := by
  have hl := h.lo
  have hi := h.hi
  exact ⟨h.ta.grown hg (by simp [Value.ownBlock]; omega), h.tr.grown hg (by simp [Value.ownBlock]; omega), h.bel.grown hg (by omega) (by intro k hk; simp [Value.ownBlock] at hk; omega)⟩

set_option maxRecDepth 100000 in
set_option maxHeartbeats 1000000 in
theorem strunc_any (o u : Int) (A : Option Addr) (n c : Nat) (zs : List Int) (k : Int) (w : World) (h : Rd w w.heap.size A n zs) (hA : A = none → c = 0) (hcap : n ≤ c) (hn : (n : Int) ≤ 2000000) :
    Calls Tryd.prog 19 #[.agg #[.int .i64 o, .int .i64 u, .slice A n c], .int .i64 k] w (Ser (trO o u zs k) (trU o u zs k) (trT o u zs k) w) := by
  obtain ⟨i0, hi, hz0, hz1, hz2⟩ := info_parts infoInt
  have H := Lib.hid h
  have HA := Lib.hid hA
  clear h hA
  cases hs : serOk o u zs
  · rw [trO_no (trOk_no hs), trU_no (trOk_no hs), trT_no (trOk_no hs)]
    go_enter Tryd.func19, Tryd.ntmps19
    go_wp2_with fail
    refine (sserOk_any o u A n c zs _ ((H.out.alloc _).alloc _) (by omega)).mono ?_
    rintro e w1 ⟨rfl, B1⟩
    have T1 : Three w1 w.heap.size 24 (.int .i64 o) (.int .i64 u) (.slice A n c) := by
      simpa using ((Three.new w 24 (.int .i64 o) (.int .i64 u) (.slice A n c)).below ((Below.refl _ _).alloc (Nat.le_refl _) _) (by simp)).below B1 (by simp; omega)
    have T2 : Three w1 (w.heap.size + 1) 24 (.int .i64 0) (.int .i64 0) (.slice none 0 0) := by
      simpa using (Three.new (w.alloc _) 24 (.int .i64 0) (.int .i64 0) (.slice none 0 0)).below B1 (by simp)
    have s1 : w.heap.size + 2 ≤ w1.heap.size := by have := B1.size; simpa using this
    have X1 : Below w.heap.size w w1 := (((Below.refl _ _).alloc (Nat.le_refl _) _).alloc (by simp) _).trans (B1.mono (by simp; omega))
    have R1 := Lib.hid (((H.out.alloc _).alloc _).below B1 (Nat.le_refl _) |>.mono B1.size)
    have a0 := T1.c0
    have a1 := T1.c1
    have a2 := T1.c2
    have b0 := T2.c0
    have b1 := T2.c1
    have b2 := T2.c2
    have f0 := T2.f 0
    have f1 := T2.f 1
    have f2 := T2.f 2
    rw [hs]
    go_wp2_with (go_at_call 23; refine (l1In_eq _ _ _ _ t0 _).mono ?_; rintro e w' ⟨rfl, rfl⟩)
    refine bodyPost_ret (v := .agg #[.int .i64 0, .int .i64 0, .slice none 0 0]) (by simp [results, Tryd.results19, go_sem, b0, b1, b2]) rfl ?_
    exact ser_mk (n := 0) rfl (World.ownsRow_nil _ _ _ _) (bel_three (s := w.heap.size + 1) X1 (by omega))
  · by_cases h0 : k < 0
    · rw [trO_no (trOk_lo h0), trU_no (trOk_lo h0), trT_no (trOk_lo h0)]
      have t0 : decide (0 ≤ k ∧ k ≤ o) = false := decide_eq_false (by omega)
      go_enter Tryd.func19, Tryd.ntmps19
      go_wp2_with fail
      refine (sserOk_any o u A n c zs _ ((H.out.alloc _).alloc _) (by omega)).mono ?_
      rintro e w1 ⟨rfl, B1⟩
      have T1 : Three w1 w.heap.size 24 (.int .i64 o) (.int .i64 u) (.slice A n c) := by
        simpa using ((Three.new w 24 (.int .i64 o) (.int .i64 u) (.slice A n c)).below ((Below.refl _ _).alloc (Nat.le_refl _) _) (by simp)).below B1 (by simp; omega)
      have T2 : Three w1 (w.heap.size + 1) 24 (.int .i64 0) (.int .i64 0) (.slice none 0 0) := by
        simpa using (Three.new (w.alloc _) 24 (.int .i64 0) (.int .i64 0) (.slice none 0 0)).below B1 (by simp)
      have s1 : w.heap.size + 2 ≤ w1.heap.size := by have := B1.size; simpa using this
      have X1 : Below w.heap.size w w1 := (((Below.refl _ _).alloc (Nat.le_refl _) _).alloc (by simp) _).trans (B1.mono (by simp; omega))
      have R1 := Lib.hid (((H.out.alloc _).alloc _).below B1 (Nat.le_refl _) |>.mono B1.size)
      have a0 := T1.c0
      have a1 := T1.c1
      have a2 := T1.c2
      have b0 := T2.c0
      have b1 := T2.c1
      have b2 := T2.c2
      have f0 := T2.f 0
      have f1 := T2.f 1
      have f2 := T2.f 2
      rw [hs]
      go_wp2_with (go_at_call 23; refine (l1In_eq _ _ _ _ t0 _).mono ?_; rintro e w' ⟨rfl, rfl⟩)
      refine bodyPost_ret (v := .agg #[.int .i64 0, .int .i64 0, .slice none 0 0]) (by simp [results, Tryd.results19, go_sem, b0, b1, b2]) rfl ?_
      exact ser_mk (n := 0) rfl (World.ownsRow_nil _ _ _ _) (bel_three (s := w.heap.size + 1) X1 (by omega))
    · by_cases h1 : k > o
      · rw [trO_no (trOk_hi h1), trU_no (trOk_hi h1), trT_no (trOk_hi h1)]
        have t0 : decide (0 ≤ k ∧ k ≤ o) = false := decide_eq_false (by omega)
        go_enter Tryd.func19, Tryd.ntmps19
        go_wp2_with fail
        refine (sserOk_any o u A n c zs _ ((H.out.alloc _).alloc _) (by omega)).mono ?_
        rintro e w1 ⟨rfl, B1⟩
        have T1 : Three w1 w.heap.size 24 (.int .i64 o) (.int .i64 u) (.slice A n c) := by
          simpa using ((Three.new w 24 (.int .i64 o) (.int .i64 u) (.slice A n c)).below ((Below.refl _ _).alloc (Nat.le_refl _) _) (by simp)).below B1 (by simp; omega)
        have T2 : Three w1 (w.heap.size + 1) 24 (.int .i64 0) (.int .i64 0) (.slice none 0 0) := by
          simpa using (Three.new (w.alloc _) 24 (.int .i64 0) (.int .i64 0) (.slice none 0 0)).below B1 (by simp)
        have s1 : w.heap.size + 2 ≤ w1.heap.size := by have := B1.size; simpa using this
        have X1 : Below w.heap.size w w1 := (((Below.refl _ _).alloc (Nat.le_refl _) _).alloc (by simp) _).trans (B1.mono (by simp; omega))
        have R1 := Lib.hid (((H.out.alloc _).alloc _).below B1 (Nat.le_refl _) |>.mono B1.size)
        have a0 := T1.c0
        have a1 := T1.c1
        have a2 := T1.c2
        have b0 := T2.c0
        have b1 := T2.c1
        have b2 := T2.c2
        have f0 := T2.f 0
        have f1 := T2.f 1
        have f2 := T2.f 2
        rw [hs]
        go_wp2_with (go_at_call 23; refine (l1In_eq _ _ _ _ t0 _).mono ?_; rintro e w' ⟨rfl, rfl⟩)
        refine bodyPost_ret (v := .agg #[.int .i64 0, .int .i64 0, .slice none 0 0]) (by simp [results, Tryd.results19, go_sem, b0, b1, b2]) rfl ?_
        exact ser_mk (n := 0) rfl (World.ownsRow_nil _ _ _ _) (bel_three (s := w.heap.size + 1) X1 (by omega))
      · rw [trO_yes (trOk_all hs (by omega) (by omega)), trU_yes (trOk_all hs (by omega) (by omega)), trT_yes (trOk_all hs (by omega) (by omega))]
        have t0 : decide (0 ≤ k ∧ k ≤ o) = true := decide_eq_true ⟨by omega, by omega⟩
        obtain ⟨⟨ho, ho6⟩, _, hl, _⟩ := serOk_spec hs
        obtain ⟨q, rfl⟩ := Int.eq_ofNat_of_zero_le ho
        obtain ⟨j, rfl⟩ := Int.eq_ofNat_of_zero_le (show 0 ≤ k by omega)
        have hj6 : j ≤ 6 := by omega
        rw [ctn_yes q (by omega), H.out.1] at hl
        have hmo := ct_mono j q (by omega) (by omega)
        have hge := ct_ge j
        obtain ⟨m, hm⟩ : ∃ m, m = (ct (Int.toNat (j : Int))).toNat := ⟨_, rfl⟩
        rw [← hm]
        have hjt : (Int.toNat (j : Int)) = j := by omega
        rw [hjt] at hm
        have hmn : m ≤ n := by omega
        have hmc : m ≤ c := by omega
        have hct := Lib.hid (show ctn j = (m : Int) by rw [ctn_yes j hj6]; omega)
        have hlt := Lib.hid (show (zs.take m).length = m by have := H.out.1; simp; omega)
        clear hge hmo hm hjt hl
        go_enter Tryd.func19, Tryd.ntmps19
        go_wp2_with fail
        refine (sserOk_any q u A n c zs _ ((H.out.alloc _).alloc _) (by omega)).mono ?_
        rintro e w1 ⟨rfl, B1⟩
        have T1 : Three w1 w.heap.size 24 (.int .i64 q) (.int .i64 u) (.slice A n c) := by
          simpa using ((Three.new w 24 (.int .i64 q) (.int .i64 u) (.slice A n c)).below ((Below.refl _ _).alloc (Nat.le_refl _) _) (by simp)).below B1 (by simp; omega)
        have T2 : Three w1 (w.heap.size + 1) 24 (.int .i64 0) (.int .i64 0) (.slice none 0 0) := by
          simpa using (Three.new (w.alloc _) 24 (.int .i64 0) (.int .i64 0) (.slice none 0 0)).below B1 (by simp)
        have s1 : w.heap.size + 2 ≤ w1.heap.size := by have := B1.size; simpa using this
        have X1 : Below w.heap.size w w1 := (((Below.refl _ _).alloc (Nat.le_refl _) _).alloc (by simp) _).trans (B1.mono (by simp; omega))
        have R1 := Lib.hid (((H.out.alloc _).alloc _).below B1 (Nat.le_refl _) |>.mono B1.size)
        have a0 := T1.c0
        have a1 := T1.c1
        have a2 := T1.c2
        have b0 := T2.c0
        have b1 := T2.c1
        have b2 := T2.c2
        have f0 := T2.f 0
        have f1 := T2.f 1
        have f2 := T2.f 2
        rw [hs]
        go_wp2_with (go_at_call 23; refine (l1In_eq _ _ _ _ t0 _).mono ?_; rintro e w' ⟨rfl, rfl⟩)
        have RT := Lib.hid (rd_take R1.out hmn)
        have PA : ∀ w5, Below ((w1.alloc (.cells #[] 3)).drew).heap.size (w1.alloc (.cells #[] 3)).drew w5 → TrS w q u A n c m w1.heap.size (zs.take m) w5 := fun w5 B5 => by
          have al : Below w1.heap.size w1 (w1.alloc (.cells #[] 3)).drew := ((Below.refl _ w1).alloc (Nat.le_refl _) _).drew
          have Y : Below w1.heap.size w1 w5 := al.trans (B5.mono (by simp))
          have hs5 := Y.size
          exact ⟨T1.below Y (by omega), T2.below Y (by omega), own_below (w := (w1.alloc (.cells #[] 3)).drew) (show World.ownsRow (World.drew _) _ _ _ _ _ _ from own_empty w1 (w.heap.size + 2) s1) B5, rd_below RT.out Y, X1.trans (Y.mono (by omega)), s1, by omega⟩
        have PB : ∀ w5, Below w1.drew.heap.size w1.drew w5 → TrS w q u A n c m w5.heap.size (zs.take m) (w5.alloc (.cells #[] 3)) := fun w5 B5 => by
          have Y0 : Below w1.heap.size w1 w5 := (Below.refl _ w1).drew.trans B5
          have Y : Below w1.heap.size w1 (w5.alloc (.cells #[] 3)) := Y0.alloc Y0.size _
          have hs5 := Y0.size
          exact ⟨T1.below Y (by omega), T2.below Y (by omega), own_empty w5 (w.heap.size + 2) (by omega), rd_below RT.out Y, X1.trans (Y.mono (by omega)), by omega, by simp; omega⟩
        have PA := Lib.hid PA
        have PB := Lib.hid PB
        have T1h := Lib.hid T1
        clear f0 f1 f2 b0 b1 b2 T1 T2
        have ne1 := World.new_ne w1 _ a1
        have ne2 := World.new_ne w1 _ a2
        go_region_held_law (fun w' => w'.cell? ⟨w.heap.size, 1, none⟩ = some (.int .i64 u) ∧ w'.cell? ⟨w.heap.size, 2, none⟩ = some (.slice A n c)) (go_keep) (first
          | (go_at_call 32; refine (scount_m j m hct.out _).mono ?_; rintro e w5 ⟨rfl, B5⟩; have g1 := keepC B5 (show World.cell? _ ⟨w.heap.size, 1, none⟩ = some (.int .i64 u) by go_keep); have g2 := keepC B5 (show World.cell? _ ⟨w.heap.size, 2, none⟩ = some (.slice A n c) by go_keep); have nf1 := World.new_ne w5 _ g1; have nf2 := World.new_ne w5 _ g2; (first | (have P := PA.out w5 B5; have P := Lib.hid P) | (have P := PB.out w5 B5; have P := Lib.hid P)))
          | (refine step_append_rd rfl (.tmp 19) (.tmp 24) 22 rfl (w.heap.size + 2) 3 i0 (.int .i64 0) 8 Tryd.underlying22 hi hz0 hz1 hz2 rfl (.slice (some ⟨w1.heap.size, 0, none⟩) 0 0) 0 [] rfl P.out.own A m _ (zs.take m) _ rfl P.out.ra HA.out (by unfold maxLen; omega) (by omega) P.out.hi ?_; intro v9 w9 O9 G9; obtain ⟨A9, c9, rfl⟩ := own_val O9; obtain ⟨U1, U2, U3⟩ := P.out.after G9; have b0 := U2.c0; have b1 := U2.c1; have b2 := U2.c2; have f0 := U2.f 0; have f1 := U2.f 1; have f2 := U2.f 2; have h1 := U1.c1; have h2 := U1.c2; have O9 := Lib.hid O9; have U3 := Lib.hid U3; clear G9 U1 U2)
          | (refine step_append_rd rfl (.tmp 19) (.tmp 24) 22 rfl (w.heap.size + 2) 3 i0 (.int .i64 0) 8 Tryd.underlying22 hi hz0 hz1 hz2 rfl (.slice (some ⟨w5.heap.size, 0, none⟩) 0 0) 0 [] rfl P.out.own A m _ (zs.take m) _ rfl P.out.ra HA.out (by unfold maxLen; omega) (by omega) P.out.hi ?_; intro v9 w9 O9 G9; obtain ⟨A9, c9, rfl⟩ := own_val O9; obtain ⟨U1, U2, U3⟩ := P.out.after G9; have b0 := U2.c0; have b1 := U2.c1; have b2 := U2.c2; have f0 := U2.f 0; have f1 := U2.f 1; have f2 := U2.f 2; have h1 := U1.c1; have h2 := U1.c2; have O9 := Lib.hid O9; have U3 := Lib.hid U3; clear G9 U1 U2))
        all_goals rw [Nat.zero_add, List.nil_append] at O9
        all_goals go_wp2_with fail
        all_goals refine bodyPost_ret (v := .agg #[.int .i64 j, .int .i64 u, .slice A9 m c9]) (by simp [results, Tryd.results19, go_sem, b0, b1, b2]) rfl ?_
        all_goals refine ser_mk hlt.out ?_ (bel_three (s := w.heap.size + 1) U3.out (by omega))
        all_goals exact own_base (own_three (s := w.heap.size + 1) O9.out (by omega)) (by omega)
end Go.Proofs.YtajalndghbbfdaaDoor
