/- The contracts of TruncateSeries, of the program and of the reference. -/
import Derived.Test.YtajalndghbbfdaaDoorSScale
import Derived.Test.YtajalndghbbfdaaDoorKeep
import Derived.Test.YtajalndghbbfdaaDoorShelf
namespace Go.Proofs.YtajalndghbbfdaaDoor
open Go.RowKit Go.PlainNum

/-- what TruncateSeries gives -/
def trOk (o u : Int) (zs : List Int) (k : Int) : Bool := serOk o u zs && decide (0 ≤ k ∧ k ≤ o)
def trO (o u : Int) (zs : List Int) (k : Int) : Int := if trOk o u zs k = true then k else 0
def trU (o u : Int) (zs : List Int) (k : Int) : Int := if trOk o u zs k = true then u else 0
def trT (o u : Int) (zs : List Int) (k : Int) : List Int := if trOk o u zs k = true then zs.take (ct k.toNat).toNat else []
theorem trO_yes {o u k : Int} {zs : List Int} (h : trOk o u zs k = true) : trO o u zs k = k := if_pos h
theorem trU_yes {o u k : Int} {zs : List Int} (h : trOk o u zs k = true) : trU o u zs k = u := if_pos h
theorem trT_yes {o u k : Int} {zs : List Int} (h : trOk o u zs k = true) : trT o u zs k = zs.take (ct k.toNat).toNat := if_pos h
theorem trO_no {o u k : Int} {zs : List Int} (h : trOk o u zs k = false) : trO o u zs k = 0 := if_neg (by rw [h]; simp)
theorem trU_no {o u k : Int} {zs : List Int} (h : trOk o u zs k = false) : trU o u zs k = 0 := if_neg (by rw [h]; simp)
theorem trT_no {o u k : Int} {zs : List Int} (h : trOk o u zs k = false) : trT o u zs k = [] := if_neg (by rw [h]; simp)
theorem ct_mono (a b : Nat) (h : a ≤ b) (hb : b ≤ 6) : ct a ≤ ct b := by
  have ha : a ≤ 6 := by omega
  revert h
  match b, hb with
  | 0, _ | 1, _ | 2, _ | 3, _ | 4, _ | 5, _ | 6, _ => match a, ha with
    | 0, _ | 1, _ | 2, _ | 3, _ | 4, _ | 5, _ | 6, _ => intro h; first | decide | omega
theorem trT_len (o u : Int) (zs : List Int) (k : Int) : (trT o u zs k).length ≤ 4000 := by
  cases hs : trOk o u zs k
  · rw [trT_no hs]; simp
  · rw [trT_yes hs]; have := ct_le k.toNat; have := ct_ge k.toNat; simp; omega
theorem trOk_no {o u k : Int} {zs : List Int} (h : serOk o u zs = false) : trOk o u zs k = false := by simp [trOk, h]
theorem trOk_lo {o u k : Int} {zs : List Int} (h : k < 0) : trOk o u zs k = false := by
  have : decide (0 ≤ k ∧ k ≤ o) = false := decide_eq_false (by omega)
  simp [trOk, this]
theorem trOk_hi {o u k : Int} {zs : List Int} (h : k > o) : trOk o u zs k = false := by
  have : decide (0 ≤ k ∧ k ≤ o) = false := decide_eq_false (by omega)
  simp [trOk, this]
theorem trOk_all {o u k : Int} {zs : List Int} (h : serOk o u zs = true) (h0 : 0 ≤ k) (h1 : k ≤ o) : trOk o u zs k = true := by
  have : decide (0 ≤ k ∧ k ≤ o) = true := decide_eq_true ⟨h0, h1⟩
  simp [trOk, h, this]
attribute [irreducible] trOk trO trU trT

theorem clone_any (B : Nat) (A : Option Addr) (n c : Nat) (zs : List Int) (w : World) (h : Rd w B A n zs) (hn : (n : Int) ≤ 2000000) :
    Calls Tryd.prog 40 #[.slice A n c] w fun e w' => ∃ C d, e = .returned (.slice C n d) ∧ w'.ownsRow w.heap.size 3 1 (.slice C n d) n (zs.map (Value.int .i64)) ∧ Below w.heap.size w w' := by
  cases A with
  | none =>
    obtain ⟨rfl, rfl⟩ := rd_none h
    exact (Tryd.slices_Clone_int_nil 0 c w).mono fun e w' ⟨he, hw⟩ => by
      subst hw
      exact ⟨none, 0, he, World.ownsRow_nil _ _ _ _, Below.refl _ _⟩
  | some ad =>
    rcases Nat.eq_zero_or_pos n with h0 | h0
    · subst h0
      have hz : zs = [] := List.eq_nil_of_length_eq_zero h.1
      subst hz
      exact (Tryd.slices_Clone_int_zero ad c w).mono fun e w' ⟨v', he, hO, _, hb⟩ => by
        obtain ⟨C, d, rfl⟩ := own_val hO
        exact ⟨C, d, he, hO, hb⟩
    · obtain ⟨b, off, hA, _, hc⟩ := h.2 h0
      obtain rfl : ad = ⟨b, off, none⟩ := by simpa using hA
      have hl := h.1
      exact (Tryd.slices_Clone_int b off n c zs w (by omega) (by omega) (fun j hj => hc j (by omega))).mono fun e w' ⟨v', he, hO, _, hb⟩ => by
        rw [List.take_of_length_le (by omega)] at hO
        obtain ⟨C, d, rfl⟩ := own_val hO
        exact ⟨C, d, he, hO, hb⟩

theorem rd_take {w : World} {B n m : Nat} {A : Option Addr} {zs : List Int} (h : Rd w B A n zs) (hm : m ≤ n) : Rd w B A m (zs.take m) := by
  have hl := h.1
  refine ⟨by simp; omega, fun h0 => ?_⟩
  obtain ⟨b, off, hA, hb, hc⟩ := h.2 (by omega)
  refine ⟨b, off, hA, hb, fun j hj => ?_⟩
  rw [hc j (by omega)]
  simp [List.getD_eq_getElem?_getD, hj]
theorem count_m (k m : Nat) (hk : ctn k = (m : Int)) (B : Nat) (w : World) (hc : CT B w) :
    Calls Tryd.prog 36 #[.int .i64 k] w fun e w' => e = .returned (.int .i64 (m : Int)) ∧ w = w' := by
  rw [← hk]
  exact count_any k B w hc

set_option maxRecDepth 100000 in
set_option maxHeartbeats 1000000 in
theorem trunc_any (o u : Int) (A : Option Addr) (n c : Nat) (zs : List Int) (k : Int) (B : Nat) (w : World) (hc : CT B w) (hB : B ≤ w.heap.size) (h : Rd w w.heap.size A n zs) (hcap : n ≤ c) (hn : (n : Int) ≤ 2000000) :
    Calls Tryd.prog 20 #[.agg #[.int .i64 o, .int .i64 u, .slice A n c], .int .i64 k] w (Ser (trO o u zs k) (trU o u zs k) (trT o u zs k) w) := by
  have H := Lib.hid h
  have HC := Lib.hid hc
  clear h hc
  cases hs : serOk o u zs
  · rw [trO_no (trOk_no hs), trU_no (trOk_no hs), trT_no (trOk_no hs)]
    go_enter Tryd.func20, Tryd.ntmps20
    go_wp2_with fail
    refine (serOk_any o u A n c zs B _ (HC.out.below (((Below.refl _ _).alloc (Nat.le_refl _) _).alloc (by simp) _) hB) (by simp; omega) ((H.out.alloc _).alloc _) (by omega)).mono ?_
    rintro e w1 ⟨rfl, B1⟩
    have T1 : Three w1 w.heap.size 24 (.int .i64 o) (.int .i64 u) (.slice A n c) := by
      simpa using ((Three.new w 24 (.int .i64 o) (.int .i64 u) (.slice A n c)).below ((Below.refl _ _).alloc (Nat.le_refl _) _) (by simp)).below B1 (by simp; omega)
    have T2 : Three w1 (w.heap.size + 1) 24 (.int .i64 0) (.int .i64 0) (.slice none 0 0) := by
      simpa using (Three.new (w.alloc _) 24 (.int .i64 0) (.int .i64 0) (.slice none 0 0)).below B1 (by simp)
    have s1 : w.heap.size + 2 ≤ w1.heap.size := by have := B1.size; simpa using this
    have X1 : Below w.heap.size w w1 := (((Below.refl _ _).alloc (Nat.le_refl _) _).alloc (by simp) _).trans (B1.mono (by simp; omega))
    have R1 := Lib.hid (((H.out.alloc _).alloc _).below B1 (Nat.le_refl _) |>.mono B1.size)
    have a0 := T1.c0
    have a1 := T1.c1
    have a2 := T1.c2
    have b0 := T2.c0
    have b1 := T2.c1
    have b2 := T2.c2
    have f0 := T2.f 0
    have f1 := T2.f 1
    have f2 := T2.f 2
    rw [hs]
    go_wp2_with fail
    refine bodyPost_ret (v := .agg #[.int .i64 0, .int .i64 0, .slice none 0 0]) (by simp [results, Tryd.results20, go_sem, b0, b1, b2]) rfl ?_
    exact ser_mk (n := 0) rfl (World.ownsRow_nil _ _ _ _) (bel_three (s := w.heap.size + 1) X1 (by omega))
  · by_cases h0 : k < 0
    · rw [trO_no (trOk_lo h0), trU_no (trOk_lo h0), trT_no (trOk_lo h0)]
      have t0 : decide (k < 0) = true := decide_eq_true h0
      go_enter Tryd.func20, Tryd.ntmps20
      go_wp2_with fail
      refine (serOk_any o u A n c zs B _ (HC.out.below (((Below.refl _ _).alloc (Nat.le_refl _) _).alloc (by simp) _) hB) (by simp; omega) ((H.out.alloc _).alloc _) (by omega)).mono ?_
      rintro e w1 ⟨rfl, B1⟩
      have T1 : Three w1 w.heap.size 24 (.int .i64 o) (.int .i64 u) (.slice A n c) := by
        simpa using ((Three.new w 24 (.int .i64 o) (.int .i64 u) (.slice A n c)).below ((Below.refl _ _).alloc (Nat.le_refl _) _) (by simp)).below B1 (by simp; omega)
      have T2 : Three w1 (w.heap.size + 1) 24 (.int .i64 0) (.int .i64 0) (.slice none 0 0) := by
        simpa using (Three.new (w.alloc _) 24 (.int .i64 0) (.int .i64 0) (.slice none 0 0)).below B1 (by simp)
      have s1 : w.heap.size + 2 ≤ w1.heap.size := by have := B1.size; simpa using this
      have X1 : Below w.heap.size w w1 := (((Below.refl _ _).alloc (Nat.le_refl _) _).alloc (by simp) _).trans (B1.mono (by simp; omega))
      have R1 := Lib.hid (((H.out.alloc _).alloc _).below B1 (Nat.le_refl _) |>.mono B1.size)
      have a0 := T1.c0
      have a1 := T1.c1
      have a2 := T1.c2
      have b0 := T2.c0
      have b1 := T2.c1
      have b2 := T2.c2
      have f0 := T2.f 0
      have f1 := T2.f 1
      have f2 := T2.f 2
      rw [hs]
      go_wp2_with fail
      refine bodyPost_ret (v := .agg #[.int .i64 0, .int .i64 0, .slice none 0 0]) (by simp [results, Tryd.results20, go_sem, b0, b1, b2]) rfl ?_
      exact ser_mk (n := 0) rfl (World.ownsRow_nil _ _ _ _) (bel_three (s := w.heap.size + 1) X1 (by omega))
    · have t0 : decide (k < 0) = false := decide_eq_false h0
      by_cases h1 : k > o
      · rw [trO_no (trOk_hi h1), trU_no (trOk_hi h1), trT_no (trOk_hi h1)]
        have t1 : decide (k > o) = true := decide_eq_true h1
        go_enter Tryd.func20, Tryd.ntmps20
        go_wp2_with fail
        refine (serOk_any o u A n c zs B _ (HC.out.below (((Below.refl _ _).alloc (Nat.le_refl _) _).alloc (by simp) _) hB) (by simp; omega) ((H.out.alloc _).alloc _) (by omega)).mono ?_
        rintro e w1 ⟨rfl, B1⟩
        have T1 : Three w1 w.heap.size 24 (.int .i64 o) (.int .i64 u) (.slice A n c) := by
          simpa using ((Three.new w 24 (.int .i64 o) (.int .i64 u) (.slice A n c)).below ((Below.refl _ _).alloc (Nat.le_refl _) _) (by simp)).below B1 (by simp; omega)
        have T2 : Three w1 (w.heap.size + 1) 24 (.int .i64 0) (.int .i64 0) (.slice none 0 0) := by
          simpa using (Three.new (w.alloc _) 24 (.int .i64 0) (.int .i64 0) (.slice none 0 0)).below B1 (by simp)
        have s1 : w.heap.size + 2 ≤ w1.heap.size := by have := B1.size; simpa using this
        have X1 : Below w.heap.size w w1 := (((Below.refl _ _).alloc (Nat.le_refl _) _).alloc (by simp) _).trans (B1.mono (by simp; omega))
        have R1 := Lib.hid (((H.out.alloc _).alloc _).below B1 (Nat.le_refl _) |>.mono B1.size)
        have a0 := T1.c0
        have a1 := T1.c1
        have a2 := T1.c2
        have b0 := T2.c0
        have b1 := T2.c1
        have b2 := T2.c2
        have f0 := T2.f 0
        have f1 := T2.f 1
        have f2 := T2.f 2
        rw [hs]
        go_wp2_with fail
        refine bodyPost_ret (v := .agg #[.int .i64 0, .int .i64 0, .slice none 0 0]) (by simp [results, Tryd.results20, go_sem, b0, b1, b2]) rfl ?_
        exact ser_mk (n := 0) rfl (World.ownsRow_nil _ _ _ _) (bel_three (s := w.heap.size + 1) X1 (by omega))

      · rw [trO_yes (trOk_all hs (by omega) (by omega)), trU_yes (trOk_all hs (by omega) (by omega)), trT_yes (trOk_all hs (by omega) (by omega))]
        have t1 : decide (k > o) = false := decide_eq_false h1
        obtain ⟨⟨ho, ho6⟩, _, hl, _⟩ := serOk_spec hs
        obtain ⟨q, rfl⟩ := Int.eq_ofNat_of_zero_le ho
        obtain ⟨j, rfl⟩ := Int.eq_ofNat_of_zero_le (show 0 ≤ k by omega)
        have hj6 : j ≤ 6 := by omega
        rw [ctn_yes q (by omega), H.out.1] at hl
        have hmo := ct_mono j q (by omega) (by omega)
        have hge := ct_ge j
        obtain ⟨m, hm⟩ : ∃ m, m = (ct (Int.toNat (j : Int))).toNat := ⟨_, rfl⟩
        rw [← hm]
        have hjt : (Int.toNat (j : Int)) = j := by omega
        rw [hjt] at hm
        have hmn : m ≤ n := by omega
        have hmc : m ≤ c := by omega
        have hct := Lib.hid (show ctn j = (m : Int) by rw [ctn_yes j hj6]; omega)
        have hlt := Lib.hid (show (zs.take m).length = m by have := H.out.1; simp; omega)
        clear hge hmo hm hjt hl
        go_enter Tryd.func20, Tryd.ntmps20
        go_wp2_with fail
        refine (serOk_any q u A n c zs B _ (HC.out.below (((Below.refl _ _).alloc (Nat.le_refl _) _).alloc (by simp) _) hB) (by simp; omega) ((H.out.alloc _).alloc _) (by omega)).mono ?_
        rintro e w1 ⟨rfl, B1⟩
        have T1 : Three w1 w.heap.size 24 (.int .i64 q) (.int .i64 u) (.slice A n c) := by
          simpa using ((Three.new w 24 (.int .i64 q) (.int .i64 u) (.slice A n c)).below ((Below.refl _ _).alloc (Nat.le_refl _) _) (by simp)).below B1 (by simp; omega)
        have T2 : Three w1 (w.heap.size + 1) 24 (.int .i64 0) (.int .i64 0) (.slice none 0 0) := by
          simpa using (Three.new (w.alloc _) 24 (.int .i64 0) (.int .i64 0) (.slice none 0 0)).below B1 (by simp)
        have s1 : w.heap.size + 2 ≤ w1.heap.size := by have := B1.size; simpa using this
        have X1 : Below w.heap.size w w1 := (((Below.refl _ _).alloc (Nat.le_refl _) _).alloc (by simp) _).trans (B1.mono (by simp; omega))
        have R1 := Lib.hid (((H.out.alloc _).alloc _).below B1 (Nat.le_refl _) |>.mono B1.size)
        have a0 := T1.c0
        have a1 := T1.c1
        have a2 := T1.c2
        have b0 := T2.c0
        have b1 := T2.c1
        have b2 := T2.c2
        have f0 := T2.f 0
        have f1 := T2.f 1
        have f2 := T2.f 2
        rw [hs]
        go_wp2_with fail
        have RT : Rd w1.drew w1.drew.heap.size A m (zs.take m) := rd_take R1.out hmn
        have RT := Lib.hid RT
        have HCd : CT B w1.drew := HC.out.below (X1.drew) hB
        have HCd := Lib.hid HCd
        have T1d := Lib.hid (show Three w1.drew w.heap.size 24 (.int .i64 q) (.int .i64 u) (.slice A n c) from ⟨T1.blk⟩)
        have T2d := Lib.hid (show Three w1.drew (w.heap.size + 1) 24 (.int .i64 0) (.int .i64 0) (.slice none 0 0) from ⟨T2.blk⟩)
        have X1d := Lib.hid X1.drew
        clear f0 f1 f2 b0 b1 b2
        go_region_held3 (fun w' => w'.cell? ⟨w.heap.size, 1, none⟩ = some (.int .i64 u) ∧ w'.cell? ⟨w.heap.size, 2, none⟩ = some (.slice A n c)) (go_keep) (first | (go_at_call 36; refine (count_m j m hct.out B _ HCd.out).mono ?_; rintro e w' ⟨rfl, rfl⟩) | (go_at_call 40; refine (clone_any w1.drew.heap.size A m _ (zs.take m) _ RT.out (by omega)).mono ?_; rintro e w5 ⟨C, d, rfl, O5, B5⟩; have U1 := T1d.out.below B5 (by simp; omega); have U2 := T2d.out.below B5 (by simp; omega); have g1 := U1.c1; have g2 := U1.c2; have b0 := U2.c0; have b1 := U2.c1; have b2 := U2.c2; have f0 := U2.f 0; have f1 := U2.f 1; have f2 := U2.f 2; have O5 := Lib.hid (own_base (b' := w.heap.size + 2) O5 (by simp; omega)); have X5 := Lib.hid (X1d.out.trans (B5.mono (by simp; omega)))))
        go_wp2_with fail
        refine bodyPost_ret (v := .agg #[.int .i64 j, .int .i64 u, .slice C m d]) (by simp [results, Tryd.results20, go_sem, b0, b1, b2]) rfl ?_
        refine ser_mk hlt.out ?_ (bel_three (s := w.heap.size + 1) X5.out (by omega))
        exact own_base (own_three (s := w.heap.size + 1) O5.out (by omega)) (by omega)
end Go.Proofs.YtajalndghbbfdaaDoor
