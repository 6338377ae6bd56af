/- The contracts of ScaleSeries, of the program and of the reference. -/
import Derived.Test.YtajalndghbbfdaaDoorMix
namespace Go.Proofs.YtajalndghbbfdaaDoor
open Go.RowKit Go.PlainNum

/-- what ScaleSeries gives -/
def scO (o u : Int) (zs : List Int) : Int := if serOk o u zs = true then o else 0
def scU (o u : Int) (zs : List Int) (k : Int) : Int := if serOk o u zs = true then res (u * k) else 0
def scT (o u : Int) (zs : List Int) (k : Int) : List Int := if serOk o u zs = true then zs.map (fun z => res (z * k)) else []
theorem scO_yes {o u : Int} {zs : List Int} (h : serOk o u zs = true) : scO o u zs = o := if_pos h
theorem scU_yes {o u k : Int} {zs : List Int} (h : serOk o u zs = true) : scU o u zs k = res (u * k) := if_pos h
theorem scT_yes {o u k : Int} {zs : List Int} (h : serOk o u zs = true) : scT o u zs k = zs.map (fun z => res (z * k)) := if_pos h
theorem scO_no {o u : Int} {zs : List Int} (h : serOk o u zs = false) : scO o u zs = 0 := if_neg (by rw [h]; simp)
theorem scU_no {o u k : Int} {zs : List Int} (h : serOk o u zs = false) : scU o u zs k = 0 := if_neg (by rw [h]; simp)
theorem scT_no {o u k : Int} {zs : List Int} (h : serOk o u zs = false) : scT o u zs k = [] := if_neg (by rw [h]; simp)
theorem mix_scale (ys : List Int) (k : Int) (n : Nat) (hn : ys.length = n) : mixL (List.replicate n 0) ys k n = ys.map (fun z => res (z * k)) := by
  apply List.ext_getElem?
  intro i
  by_cases hi : i < n
  · have h1 := mixL_get (List.replicate n 0) ys k n i hi
    rw [List.getD_eq_getElem?_getD, List.getElem?_eq_getElem (by rw [mixL_len]; exact hi)] at h1
    rw [List.getElem?_eq_getElem (by rw [mixL_len]; exact hi)]
    simp only [Option.getD_some] at h1
    rw [h1]
    simp [List.getElem?_eq_getElem (show i < ys.length by omega), hi, res_res]
  · rw [List.getElem?_eq_none (by rw [mixL_len]; omega), List.getElem?_eq_none (by simp; omega)]
attribute [irreducible] scO scU scT

/-- mix with the series of 0, its length named -/
theorem mix_n (m n : Nat) (hm : m ≤ 6) (hn : (ct m).toNat = n) (ob v k : Int) (A C : Option Addr) (c d : Nat) (ys : List Int) (B : Nat) (w : World) (hc : CT B w) (hB : B ≤ w.heap.size) (ha : Rd w w.heap.size A n (List.replicate n 0)) (hb : Rd w w.heap.size C n ys) :
    Calls Tryd.prog 43 #[.agg #[.int .i64 m, .int .i64 0, .slice A n c], .agg #[.int .i64 ob, .int .i64 v, .slice C n d], .int .i64 k] w fun e w' => ∃ D cap, e = .returned (.agg #[.int .i64 m, .int .i64 (res (v * k)), .slice D n cap]) ∧ w'.ownsRow w.heap.size 3 1 (.slice D n cap) n ((mixL (List.replicate n 0) ys k n).map (Value.int .i64)) ∧ Below w.heap.size w w' :=
  (mix_any m n hm hn ob 0 v k A C c d (List.replicate n 0) ys B w hc hB ha hb).mono fun e w' ⟨D, cap, he, hO, hb⟩ => by
    rw [mixL_len, Int.zero_add, res_res] at he
    rw [mixL_len] at hO
    exact ⟨D, cap, he, hO, hb⟩

set_option maxRecDepth 100000 in
set_option maxHeartbeats 1000000 in
theorem scale_any (o u : Int) (A : Option Addr) (n c : Nat) (zs : List Int) (k : Int) (B : Nat) (w : World) (hc : CT B w) (hB : B ≤ w.heap.size) (h : Rd w w.heap.size A n zs) (hn : (n : Int) ≤ 2000000) :
    Calls Tryd.prog 22 #[.agg #[.int .i64 o, .int .i64 u, .slice A n c], .int .i64 k] w (Ser (scO o u zs) (scU o u zs k) (scT o u zs k) w) := by
  have H := Lib.hid h
  have HC := Lib.hid hc
  clear h hc
  cases hs : serOk o u zs
  · rw [scO_no hs, scU_no hs, scT_no hs]
    go_enter Tryd.func22, Tryd.ntmps22
    go_wp2_with fail
    refine (serOk_any o u A n c zs B _ (HC.out.below (((Below.refl _ _).alloc (Nat.le_refl _) _).alloc (by simp) _) hB) (by simp; omega) ((H.out.alloc _).alloc _) (by omega)).mono ?_
    rintro e w1 ⟨rfl, B1⟩
    have T1 : Three w1 w.heap.size 24 (.int .i64 o) (.int .i64 u) (.slice A n c) := by
      simpa using ((Three.new w 24 (.int .i64 o) (.int .i64 u) (.slice A n c)).below ((Below.refl _ _).alloc (Nat.le_refl _) _) (by simp)).below B1 (by simp; omega)
    have T2 : Three w1 (w.heap.size + 1) 24 (.int .i64 0) (.int .i64 0) (.slice none 0 0) := by
      simpa using (Three.new (w.alloc _) 24 (.int .i64 0) (.int .i64 0) (.slice none 0 0)).below B1 (by simp)
    have s1 : w.heap.size + 2 ≤ w1.heap.size := by have := B1.size; simpa using this
    have X1 : Below w.heap.size w w1 := (((Below.refl _ _).alloc (Nat.le_refl _) _).alloc (by simp) _).trans (B1.mono (by simp; omega))
    have R1 := Lib.hid (((H.out.alloc _).alloc _).below B1 (Nat.le_refl _) |>.mono B1.size)
    have a0 := T1.c0
    have a1 := T1.c1
    have a2 := T1.c2
    have b0 := T2.c0
    have b1 := T2.c1
    have b2 := T2.c2
    have f0 := T2.f 0
    have f1 := T2.f 1
    have f2 := T2.f 2
    clear T1
    rw [hs]
    go_wp2_with fail
    refine bodyPost_ret (v := .agg #[.int .i64 0, .int .i64 0, .slice none 0 0]) (by simp [results, Tryd.results22, go_sem, b0, b1, b2]) rfl ?_
    exact ser_mk (n := 0) rfl (World.ownsRow_nil _ _ _ _) (bel_three (s := w.heap.size + 1) X1 (by omega))
  · rw [scO_yes hs, scU_yes hs, scT_yes hs]
    obtain ⟨⟨ho, ho6⟩, _, hl, _⟩ := serOk_spec hs
    obtain ⟨m, rfl⟩ := Int.eq_ofNat_of_zero_le ho
    have hm : m ≤ 6 := by omega
    rw [ctn_yes m hm, H.out.1] at hl
    have hct : Hid ((ct m).toNat = n) := Lib.hid (by omega)
    have hz := Lib.hid (mix_scale zs k n H.out.1)
    rw [← hz.out]
    clear ho ho6 hl
    go_enter Tryd.func22, Tryd.ntmps22
    go_wp2_with fail
    refine (serOk_any m u A n c zs B _ (HC.out.below (((Below.refl _ _).alloc (Nat.le_refl _) _).alloc (by simp) _) hB) (by simp; omega) ((H.out.alloc _).alloc _) (by omega)).mono ?_
    rintro e w1 ⟨rfl, B1⟩
    have T1 : Three w1 w.heap.size 24 (.int .i64 m) (.int .i64 u) (.slice A n c) := by
      simpa using ((Three.new w 24 (.int .i64 m) (.int .i64 u) (.slice A n c)).below ((Below.refl _ _).alloc (Nat.le_refl _) _) (by simp)).below B1 (by simp; omega)
    have T2 : Three w1 (w.heap.size + 1) 24 (.int .i64 0) (.int .i64 0) (.slice none 0 0) := by
      simpa using (Three.new (w.alloc _) 24 (.int .i64 0) (.int .i64 0) (.slice none 0 0)).below B1 (by simp)
    have s1 : w.heap.size + 2 ≤ w1.heap.size := by have := B1.size; simpa using this
    have X1 : Below w.heap.size w w1 := (((Below.refl _ _).alloc (Nat.le_refl _) _).alloc (by simp) _).trans (B1.mono (by simp; omega))
    have R1 := Lib.hid (((H.out.alloc _).alloc _).below B1 (Nat.le_refl _) |>.mono B1.size)
    have a0 := T1.c0
    have a1 := T1.c1
    have a2 := T1.c2
    have b0 := T2.c0
    have b1 := T2.c1
    have b2 := T2.c2
    have f0 := T2.f 0
    have f1 := T2.f 1
    have f2 := T2.f 2
    clear T1
    rw [hs]
    go_wp2_with fail
    have HCd : CT B w1.drew := HC.out.below (X1.drew) hB
    have HCd := Lib.hid HCd
    have R1d : Rd w1.drew w1.drew.heap.size A n zs := R1.out
    have R1d := Lib.hid R1d
    have X1d := Lib.hid X1.drew
    have T2d := Lib.hid (show Three w1.drew (w.heap.size + 1) 24 (.int .i64 0) (.int .i64 0) (.slice none 0 0) from ⟨T2.blk⟩)
    have hBd : B ≤ w1.drew.heap.size := by simp; omega
    go_region_held3 (fun w' => w'.cell? ⟨w.heap.size, 0, none⟩ = some (.int .i64 m) ∧ w'.cell? ⟨w.heap.size, 1, none⟩ = some (.int .i64 u) ∧ w'.cell? ⟨w.heap.size, 2, none⟩ = some (.slice A n c)) (go_keep) (first | (go_at_call 26; refine (blank_n m n hm hct.out 0 B _ ?_ ?_).mono ?_; (exact HCd.out); (exact hBd); rintro e w5 ⟨A5, c5, rfl, O5, B5⟩; have g0 := keepC B5 (show World.cell? _ ⟨w.heap.size, 0, none⟩ = some (.int .i64 m) by go_keep); have g1 := keepC B5 (show World.cell? _ ⟨w.heap.size, 1, none⟩ = some (.int .i64 u) by go_keep); have g2 := keepC B5 (show World.cell? _ ⟨w.heap.size, 2, none⟩ = some (.slice A n c) by go_keep); have R5 := Lib.hid (show Rd w5 w5.heap.size A5 n (List.replicate n 0) from (by have q := Ow.rd (w := w5) (base := w1.drew.heap.size) (n := (List.replicate n (0:Int)).length) (cap := c5) (A := A5) (zs := List.replicate n 0) (by unfold Ow; simpa using O5); simpa using q)); have R6 := Lib.hid ((R1d.out.below B5 (Nat.le_refl _)).mono B5.size)) | (go_at_call 43; refine (mix_n m n hm hct.out m u k A5 A c5 c zs B w5 ?_ ?_ ?_ ?_).mono ?_; (exact HCd.out.below B5 hBd); (exact Nat.le_trans hBd B5.size); (exact R5.out); (exact R6.out); rintro e w6 ⟨A6, c6, rfl, O6, B6⟩; have h0 := keepC B6 g0; have h1 := keepC B6 g1; have h2 := keepC B6 g2; have U2 := (T2d.out.below B5 (by simp; omega)).below B6 (by have := B5.size; simp at this; omega); have i0 := U2.c0; have i1 := U2.c1; have i2 := U2.c2; have i3 := U2.f 0; have i4 := U2.f 1; have i5 := U2.f 2))
    have s5 := B5.size
    have s5 : w1.heap.size ≤ w5.heap.size := by simpa using s5
    have s6 := B6.size
    have X6 : Below w.heap.size w w6 := ((X1d.out.trans (B5.mono (by simp; omega))).trans (B6.mono (by omega)))
    have O6 := Lib.hid O6
    clear R5 R6 U2 T2d
    go_wp2_with fail
    refine bodyPost_ret (v := .agg #[.int .i64 m, .int .i64 (res (u * k)), .slice A6 n c6]) (by simp [results, Tryd.results22, go_sem, i0, i1, i2]) rfl ?_
    refine ser_mk (mixL_len _ _ _ _) ?_ (bel_three (s := w.heap.size + 1) X6 (by omega))
    exact own_base (own_three (s := w.heap.size + 1) O6.out (by omega)) (by omega)
end Go.Proofs.YtajalndghbbfdaaDoor
