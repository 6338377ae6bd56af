/- The contracts of mix, of ScaleSeries, of the program and of the reference. -/
import Derived.Test.YtajalndghbbfdaaDoorSerOk
import Derived.Test.YtajalndghbbfdaaDoorToSer
namespace Go.Proofs.YtajalndghbbfdaaDoor
open Go.RowKit Go.PlainNum

/-- a row whose first j are ys's, the rest zs's -/
def prt (ys zs : List Int) (j n : Nat) : List Int := (List.range n).map fun i : Nat => if i < j then ys.getD i 0 else zs.getD i 0
theorem prt_len (ys zs : List Int) (j n : Nat) : (prt ys zs j n).length = n := by simp [prt]
theorem prt_zero (ys zs : List Int) (n : Nat) (hn : zs.length = n) : prt ys zs 0 n = zs := by
  apply List.ext_getElem?
  intro i
  by_cases hi : i < n
  · simp [prt, hi, List.getElem?_eq_getElem (show i < zs.length by omega)]
  · simp [prt, hi, List.getElem?_eq_none (show zs.length ≤ i by omega)]
theorem prt_full (ys zs : List Int) (n : Nat) (hn : ys.length = n) : prt ys zs n n = ys := by
  apply List.ext_getElem?
  intro i
  by_cases hi : i < n
  · simp [prt, hi, List.getElem?_eq_getElem (show i < ys.length by omega)]
  · simp [prt, hi, List.getElem?_eq_none (show ys.length ≤ i by omega)]
theorem prt_set (ys zs : List Int) (j n : Nat) : (prt ys zs j n).set j (ys.getD j 0) = prt ys zs (j + 1) n := by
  apply List.ext_getElem?
  intro i
  by_cases hi : i < n
  · by_cases hk : i = j
    · subst hk
      rw [List.getElem?_set_self (by simp [prt, hi])]
      simp [prt, hi]
    · rw [List.getElem?_set_ne (by omega)]
      simp [prt, hi, show (i < j + 1) = (i < j) by simp; omega]
  · rw [List.getElem?_eq_none (by simp [prt]; omega), List.getElem?_eq_none (by simp [prt]; omega)]
attribute [irreducible] prt

/-- the sum of two rows, the second one times k -/
def mixL (xs ys : List Int) (k : Int) (n : Nat) : List Int := (List.range n).map fun i : Nat => res (xs.getD i 0 + res (ys.getD i 0 * k))
theorem mixL_len (xs ys : List Int) (k : Int) (n : Nat) : (mixL xs ys k n).length = n := by simp [mixL]
theorem mixL_get (xs ys : List Int) (k : Int) (n i : Nat) (h : i < n) : (mixL xs ys k n).getD i 0 = res (xs.getD i 0 + res (ys.getD i 0 * k)) := by simp [mixL, h]
attribute [irreducible] mixL

/-- the world of mix while its loop runs -/
structure MixS (w : World) (m u ob v one : Int) (A C D : Option Addr) (n c d e tb : Nat) (xs ys zs : List Int) (w9 : World) : Prop where
  ta : Three w9 w.heap.size 24 (.int .i64 m) (.int .i64 u) (.slice A n c)
  tc : Three w9 (w.heap.size + 1) 24 (.int .i64 ob) (.int .i64 v) (.slice C n d)
  tr : Three w9 (w.heap.size + 2) 24 (.int .i64 0) (.int .i64 0) (.slice none 0 0)
  to : Three w9 tb 24 (.int .i64 m) (.int .i64 one) (.slice D n e)
  own : w9.ownsRow (w.heap.size + 3) 3 1 (.slice D n e) n (zs.map (Value.int .i64))
  ne : some tb ≠ (Value.slice D n e).ownBlock
  ra : Rd w9 w.heap.size A n xs
  rc : Rd w9 w.heap.size C n ys
  bel : Below w.heap.size w w9

theorem MixS.stored {w : World} {m u ob v one : Int} {A C D : Option Addr} {n c d e tb : Nat} {xs ys zs zs' : List Int} {w9 w9' : World} (h : MixS w m u ob v one A C D n c d e tb xs ys zs w9)
    (ho : w9'.ownsRow (w.heap.size + 3) 3 1 (.slice D n e) n (zs'.map (Value.int .i64))) (hg : w9.grownBy w9' (Value.slice D n e).ownBlock) : MixS w m u ob v one A C D n c d e tb xs ys zs' w9' where
  ta := h.ta.grown hg (fun q => by have := (h.own.lt _ q.symm).1; omega)
  tc := h.tc.grown hg (fun q => by have := (h.own.lt _ q.symm).1; omega)
  tr := h.tr.grown hg (fun q => by have := (h.own.lt _ q.symm).1; omega)
  to := h.to.grown hg h.ne
  own := ho
  ne := h.ne
  ra := h.ra.grown hg (fun g q => by have := (h.own.lt _ q).1; omega)
  rc := h.rc.grown hg (fun g q => by have := (h.own.lt _ q).1; omega)
  bel := h.bel.grown hg h.bel.size (fun g q => by have := (h.own.lt _ q).1; omega)

theorem MixS.drew {w : World} {m u ob v one : Int} {A C D : Option Addr} {n c d e tb : Nat} {xs ys zs : List Int} {w9 : World} (h : MixS w m u ob v one A C D n c d e tb xs ys zs w9) : MixS w m u ob v one A C D n c d e tb xs ys zs w9.drew :=
  ⟨⟨h.ta.blk⟩, ⟨h.tc.blk⟩, ⟨h.tr.blk⟩, ⟨h.to.blk⟩, h.own, h.ne, h.ra, h.rc, h.bel.drew⟩

theorem Three.set {w : World} {s : Nat} {t : TypeId} {x y z x' y' z' : Value} (h : Three w s t x y z) :
    Three (((w.setCell ⟨s, 0, none⟩ x').setCell ⟨s, 1, none⟩ y').setCell ⟨s, 2, none⟩ z') s t x' y' z' := by
  have hb := h.blk
  have hs : s < w.heap.size := lt_of_block hb
  constructor
  simp [World.setCell, Array.getElem?_modify, hb]

theorem mixA {w w3 w5 : World} {m u ob v one : Int} {A C D : Option Addr} {n c d e : Nat} {xs ys zs : List Int} (z3 : w3.heap.size = w.heap.size + 3) (X3 : Below w.heap.size w w3) (B6 : Below w3.heap.size w3 w5)
    (T1 : Three w3 w.heap.size 24 (.int .i64 m) (.int .i64 u) (.slice A n c)) (T2 : Three w3 (w.heap.size + 1) 24 (.int .i64 ob) (.int .i64 v) (.slice C n d)) (T3 : Three w3 (w.heap.size + 2) 24 (.int .i64 0) (.int .i64 0) (.slice none 0 0))
    (O6 : w5.ownsRow w3.heap.size 3 1 (.slice D n e) n (zs.map (Value.int .i64))) (HA : Rd w w.heap.size A n xs) (HC : Rd w w.heap.size C n ys) :
    MixS w m u ob v one A C D n c d e w5.heap.size xs ys zs (w5.alloc (.cells #[.int .i64 m, .int .i64 one, .slice D n e] 24)) := by
  have hb : Below w.heap.size w (w5.alloc (.cells #[.int .i64 m, .int .i64 one, .slice D n e] 24)) := (X3.trans (B6.mono X3.size)).alloc (Nat.le_trans X3.size B6.size) _
  have hs := B6.size
  have al : Below w5.heap.size w5 (w5.alloc (.cells #[.int .i64 m, .int .i64 one, .slice D n e] 24)) := (Below.refl _ _).alloc (Nat.le_refl _) _
  exact ⟨(T1.below B6 (by omega)).below al (by omega), (T2.below B6 (by omega)).below al (by omega), (T3.below B6 (by omega)).below al (by omega), Three.new _ _ _ _ _, own_base (O6.alloc _) (by omega),
    fun q => by have := (O6.lt _ q.symm).2; omega, HA.below hb (Nat.le_refl _), HC.below hb (Nat.le_refl _), hb⟩

theorem mixB {w w3 w5 : World} {m u ob v one : Int} {A C D : Option Addr} {n c d e b9 : Nat} {xs ys zs : List Int} {x y z : Value} (z3 : w3.heap.size = w.heap.size + 3) (X3 : Below w.heap.size w w3) (B6 : Below w3.heap.size w3 w5)
    (T1 : Three w3 w.heap.size 24 (.int .i64 m) (.int .i64 u) (.slice A n c)) (T2 : Three w3 (w.heap.size + 1) 24 (.int .i64 ob) (.int .i64 v) (.slice C n d)) (T3 : Three w3 (w.heap.size + 2) 24 (.int .i64 0) (.int .i64 0) (.slice none 0 0))
    (O6 : w5.ownsRow b9 3 1 (.slice D n e) n (zs.map (Value.int .i64))) (h9 : w3.heap.size < b9) (t7 : Three w5 w3.heap.size 24 x y z) (HA : Rd w w.heap.size A n xs) (HC : Rd w w.heap.size C n ys) :
    MixS w m u ob v one A C D n c d e w3.heap.size xs ys zs (((w5.setCell ⟨w3.heap.size, 0, none⟩ (.int .i64 m)).setCell ⟨w3.heap.size, 1, none⟩ (.int .i64 one)).setCell ⟨w3.heap.size, 2, none⟩ (.slice D n e)) := by
  have hb := bel_three (s := w3.heap.size) (x := .int .i64 m) (y := .int .i64 one) (z := .slice D n e) (X3.trans (B6.mono X3.size)) X3.size
  have al := bel_three (s := w3.heap.size) (x := .int .i64 m) (y := .int .i64 one) (z := .slice D n e) (Below.refl w3.heap.size w5) (Nat.le_refl _)
  exact ⟨(T1.below B6 (by omega)).below al (by omega), (T2.below B6 (by omega)).below al (by omega), (T3.below B6 (by omega)).below al (by omega), t7.set, own_base (own_three O6 h9) (by omega),
    fun q => by have := (O6.lt _ q.symm).1; omega, HA.below hb (Nat.le_refl _), HC.below hb (Nat.le_refl _), hb⟩

theorem keepC {w w' : World} {p : Addr} {v : Value} (hb : Below w.heap.size w w') (h : w.cell? p = some v) : w'.cell? p = some v := (hb.cell (World.block_lt_of_cell? _ _ h)).trans h

/-- blank, its length named -/
theorem blank_n (k n : Nat) (hk : k ≤ 6) (hn : (ct k).toNat = n) (one : Int) (B : Nat) (w : World) (hc : CT B w) (hB : B ≤ w.heap.size) :
    Calls Tryd.prog 26 #[.int .i64 k, .int .i64 one] w fun e w' => ∃ A cap, e = .returned (.agg #[.int .i64 k, .int .i64 one, .slice A n cap]) ∧ w'.ownsRow w.heap.size 3 1 (.slice A n cap) n ((List.replicate n 0).map (Value.int .i64)) ∧ Below w.heap.size w w' :=
  (blank_any k hk one B w hc hB).mono fun e w' ⟨A, cap, he, hO, hb⟩ => by
    rw [hn, List.length_replicate] at he hO
    exact ⟨A, cap, he, hO, hb⟩

set_option maxRecDepth 100000 in
set_option maxHeartbeats 1000000 in
theorem mix_any (m n : Nat) (hm : m ≤ 6) (hn : (ct m).toNat = n) (ob u v k : Int) (A C : Option Addr) (c d : Nat) (xs ys : List Int) (B : Nat) (w : World) (hc : CT B w) (hB : B ≤ w.heap.size) (ha : Rd w w.heap.size A n xs) (hb : Rd w w.heap.size C n ys) :
    Calls Tryd.prog 43 #[.agg #[.int .i64 m, .int .i64 u, .slice A n c], .agg #[.int .i64 ob, .int .i64 v, .slice C n d], .int .i64 k] w (Ser m (res (u + res (v * k))) (mixL xs ys k n) w) := by
  have HA := Lib.hid ha
  have HB := Lib.hid hb
  have HC := Lib.hid hc
  have c1 := ct_le m
  have hn37 : n ≤ 37 := by omega
  have hn := Lib.hid hn
  clear ha hb hc c1
  go_enter Tryd.func43, Tryd.ntmps43
  go_wp2_with fail
  have hB3 : B ≤ (((w.alloc (.cells #[.int .i64 m, .int .i64 u, .slice A n c] 24)).alloc (.cells #[.int .i64 ob, .int .i64 v, .slice C n d] 24)).alloc (.cells #[.int .i64 0, .int .i64 0, .slice none 0 0] 24)).heap.size := by simp; omega
  have HC3 : CT B (((w.alloc (.cells #[.int .i64 m, .int .i64 u, .slice A n c] 24)).alloc (.cells #[.int .i64 ob, .int .i64 v, .slice C n d] 24)).alloc (.cells #[.int .i64 0, .int .i64 0, .slice none 0 0] 24)) :=
    HC.out.below (((((Below.refl _ _).alloc (Nat.le_refl _) _).alloc (by simp) _).alloc (by simp; omega) _)) hB
  replace HC3 := Lib.hid HC3
  have T1 : Three (((w.alloc (.cells #[.int .i64 m, .int .i64 u, .slice A n c] 24)).alloc (.cells #[.int .i64 ob, .int .i64 v, .slice C n d] 24)).alloc (.cells #[.int .i64 0, .int .i64 0, .slice none 0 0] 24)) w.heap.size 24 (.int .i64 m) (.int .i64 u) (.slice A n c) := by
    simpa using ((Three.new w 24 (.int .i64 m) (.int .i64 u) (.slice A n c)).below ((Below.refl _ _).alloc (Nat.le_refl _) _) (by simp)).below ((Below.refl _ _).alloc (Nat.le_refl _) _) (by simp; omega)
  have T2 : Three (((w.alloc (.cells #[.int .i64 m, .int .i64 u, .slice A n c] 24)).alloc (.cells #[.int .i64 ob, .int .i64 v, .slice C n d] 24)).alloc (.cells #[.int .i64 0, .int .i64 0, .slice none 0 0] 24)) (w.heap.size + 1) 24 (.int .i64 ob) (.int .i64 v) (.slice C n d) := by
    simpa using (Three.new (w.alloc _) 24 (.int .i64 ob) (.int .i64 v) (.slice C n d)).below ((Below.refl _ _).alloc (Nat.le_refl _) _) (by simp)
  have T3 : Three (((w.alloc (.cells #[.int .i64 m, .int .i64 u, .slice A n c] 24)).alloc (.cells #[.int .i64 ob, .int .i64 v, .slice C n d] 24)).alloc (.cells #[.int .i64 0, .int .i64 0, .slice none 0 0] 24)) (w.heap.size + 2) 24 (.int .i64 0) (.int .i64 0) (.slice none 0 0) := by
    simpa using Three.new ((w.alloc _).alloc _) 24 (.int .i64 0) (.int .i64 0) (.slice none 0 0)
  have X3 : Below w.heap.size w (((w.alloc (.cells #[.int .i64 m, .int .i64 u, .slice A n c] 24)).alloc (.cells #[.int .i64 ob, .int .i64 v, .slice C n d] 24)).alloc (.cells #[.int .i64 0, .int .i64 0, .slice none 0 0] 24)) :=
    (((Below.refl _ _).alloc (Nat.le_refl _) _).alloc (by simp) _).alloc (by simp; omega) _
  have z3 : (((w.alloc (.cells #[.int .i64 m, .int .i64 u, .slice A n c] 24)).alloc (.cells #[.int .i64 ob, .int .i64 v, .slice C n d] 24)).alloc (.cells #[.int .i64 0, .int .i64 0, .slice none 0 0] 24)).heap.size = w.heap.size + 3 := by simp
  generalize (((w.alloc (.cells #[.int .i64 m, .int .i64 u, .slice A n c] 24)).alloc (.cells #[.int .i64 ob, .int .i64 v, .slice C n d] 24)).alloc (.cells #[.int .i64 0, .int .i64 0, .slice none 0 0] 24)) = w3 at *
  have a0 := T1.c0
  have a1 := T1.c1
  have b1 := T2.c1
  have q0 := T3.c0
  have q1 := T3.c1
  have q2 := T3.c2
  have r0 := T3.f 0
  have r1 := T3.f 1
  have r2 := T3.f 2
  replace T1 := Lib.hid T1
  replace T2 := Lib.hid T2
  replace T3 := Lib.hid T3
  replace X3 := Lib.hid X3
  replace z3 := Lib.hid z3
  have HC3d : CT B w3.drew := HC3.out
  have HC3d := Lib.hid HC3d
  have ne0 := World.new_ne w3 _ a0
  have ne1 := World.new_ne w3 _ a1
  have ne2 := World.new_ne w3 _ b1
  go_region_held3 (fun w' => w'.cell? ⟨w.heap.size, 0, none⟩ = some (.int .i64 m) ∧ w'.cell? ⟨w.heap.size, 1, none⟩ = some (.int .i64 u) ∧ w'.cell? ⟨w.heap.size + 1, 1, none⟩ = some (.int .i64 v)) (go_keep) (first | (go_at_call 47; refine (times_any _ _ _).mono ?_; rintro e w' ⟨rfl, rfl⟩) | (go_at_call 46; refine (plus_any _ _ _).mono ?_; rintro e w' ⟨rfl, rfl⟩) | (go_at_call 26; refine (blank_n m n hm hn.out _ B _ ?_ ?_).mono ?_; (first | exact HC3d.out | exact HC3d.out.below ((Below.refl _ _).alloc (Nat.le_refl _) _) hB3); (first | exact hB3 | (simp; omega)); rintro e w5 ⟨A5, c5, rfl, O5, B5⟩; have g0 := keepC B5 (show World.cell? _ ⟨w.heap.size, 0, none⟩ = some (.int .i64 m) by go_keep); have g1 := keepC B5 (show World.cell? _ ⟨w.heap.size, 1, none⟩ = some (.int .i64 u) by go_keep); have g2 := keepC B5 (show World.cell? _ ⟨w.heap.size + 1, 1, none⟩ = some (.int .i64 v) by go_keep); have B6 : Below w3.heap.size w3 w5 := (by first | exact (Below.refl _ _).drew.trans B5 | exact ((Below.refl _ _).drew.alloc (Nat.le_refl _) _).trans (B5.mono (by simp))); have O6 : w5.ownsRow w3.heap.size 3 1 (.slice A5 n c5) n ((List.replicate n 0).map (Value.int .i64)) := own_base O5 (by first | exact Nat.le_refl _ | simp); have O6 := Lib.hid O6; have U3 := T3.out.below B6 (by rw [z3.out]; omega); have h0 := U3.c0; have h1 := U3.c1; have h2 := U3.c2; have h3 := U3.f 0; have h4 := U3.f 1; have h5 := U3.f 2; have U3 := Lib.hid U3; have nf0 := World.new_ne w5 _ g0; have nf1 := World.new_ne w5 _ g1; have nf2 := World.new_ne w5 _ g2; (first | (have t7 : Three w5 w3.heap.size 24 (.int .i64 0) (.int .i64 0) (.slice none 0 0) := (Three.new w3.drew _ _ _ _).below B5 (by simp); have t70 := t7.c0; have t71 := t7.c1; have t72 := t7.c2; have t73 := t7.f 0; have t74 := t7.f 1; have t75 := t7.f 2) | skip)))
  all_goals clear ne0 ne1 ne2
  all_goals go_wp2_with fail
  all_goals first
    | (have M := mixB (one := res (u + res (v * k))) z3.out X3.out B6 T1.out T2.out T3.out O5 (by simp) t7 HA.out HB.out
       generalize hw9 : World.setCell _ _ _ = w9 at M ⊢
       generalize htb : w3.heap.size = tb at M ⊢)
    | (have M := mixA (one := res (u + res (v * k))) z3.out X3.out B6 T1.out T2.out T3.out O6.out HA.out HB.out
       generalize hw9 : World.alloc _ _ = w9 at M ⊢
       generalize htb : w5.heap.size = tb at M ⊢)
  all_goals have hx := Lib.hid (mixL_len xs ys k n)
  all_goals have M : MixS w m u ob v (res (u + res (v * k))) A C A5 n c d c5 tb xs ys (prt (mixL xs ys k n) (List.replicate n 0) 0 n) w9 := by rw [prt_zero _ _ _ (by simp)]; exact M
  all_goals clear hw9 htb
  all_goals (
    go_loopw [8, 22] (fun _ i wr => ∃ j : Nat, i = .int .i64 j ∧ j ≤ n ∧ MixS w m u ob v (res (u + res (v * k))) A C A5 n c d c5 tb xs ys (prt (mixL xs ys k n) (List.replicate n 0) j n) wr)
      (fun _ i _ => n - (intOf i).toNat)
    case atStart => exact ⟨0, rfl, Nat.zero_le _, M⟩
    case round =>
      rename_i wr _
      obtain ⟨j, rfl, hj, M⟩ := hrel
      by_cases hlt : j < n
      · have Md := M.drew
        obtain ⟨g, rfl⟩ := own_form M.own (by omega)
        obtain ⟨ba, oa, rfl, hba, hca⟩ := M.ra.2 (by omega)
        obtain ⟨bc, oc, rfl, hbc, hcc⟩ := M.rc.2 (by omega)
        have hg := (M.own.lt g rfl).1
        have n1 : g ≠ ba := by omega
        have n2 : g ≠ bc := by omega
        have n3 : g ≠ tb := fun q => M.ne (by rw [← q]; rfl)
        have n4 : g ≠ w.heap.size := by omega
        have n5 : g ≠ w.heap.size + 1 := by omega
        have m1 := n1.symm
        have m2 := n2.symm
        have m3 := n3.symm
        have m4 := n4.symm
        have m5 := n5.symm
        have ea := hca j hlt
        have ec := hcc j hlt
        have p0 := M.to.c2
        have p1 := M.ta.c2
        have p2 := M.tc.c2
        have e1 : (prt (mixL xs ys k n) (List.replicate n 0) j n).set j (res (xs.getD j 0 + res (ys.getD j 0 * k))) = prt (mixL xs ys k n) (List.replicate n 0) (j + 1) n := by rw [← mixL_get xs ys k n j hlt, prt_set]
        have S := Md.own.stored j (.int .i64 (res (xs.getD j 0 + res (ys.getD j 0 * k))))
        have f2 := M.own.frozenAt j
        have c2 := M.own.cellAt j (by omega)
        rw [List.getElem?_eq_getElem (by simp [prt_len]; omega)] at c2
        obtain ⟨x, hx2⟩ : ∃ x, ((prt (mixL xs ys k n) (List.replicate n 0) j n).map (Value.int .i64))[j]'(by simp [prt_len]; omega) = x := ⟨_, rfl⟩
        rw [hx2] at c2
        rw [← List.map_set, e1] at S
        have M1 := Lib.hid (Md.stored S.1 S.2)
        clear e1 S hx2 hca hcc M Md
        go_wp2_with fail
        go_region_held3 (fun w' => w'.cell? ⟨tb, 2, none⟩ = some (.slice (some ⟨g, 0, none⟩) n c5) ∧ w'.cell? ⟨w.heap.size, 2, none⟩ = some (.slice (some ⟨ba, oa, none⟩) n c) ∧ w'.cell? ⟨w.heap.size + 1, 2, none⟩ = some (.slice (some ⟨bc, oc, none⟩) n d) ∧ w'.cell? ⟨ba, oa + j, none⟩ = some (.int .i64 (xs.getD j 0)) ∧ w'.cell? ⟨bc, oc + j, none⟩ = some (.int .i64 (ys.getD j 0))) (go_keep) (first | (go_at_call 47; refine (times_any _ _ _).mono ?_; rintro e w' ⟨rfl, rfl⟩) | (go_at_call 46; refine (plus_any _ _ _).mono ?_; rintro e w' ⟨rfl, rfl⟩))
        go_wp2_with fail
        go_roundw
        case rel => exact ⟨j + 1, by go_num, by omega, M1.out⟩
        case measure => simp [intOf]; omega
      · obtain rfl : j = n := by omega
        rw [prt_full _ _ _ (mixL_len _ _ _ _)] at M
        have p0 := M.to.c0
        have p1 := M.to.c1
        have p2 := M.to.c2
        have y0 := M.tr.c0
        have y1 := M.tr.c1
        have y2 := M.tr.c2
        have f0 := M.tr.f 0
        have f1 := M.tr.f 1
        have f2 := M.tr.f 2
        replace M := Lib.hid M
        go_wp2_with fail
        refine bodyPost_ret (v := .agg #[.int .i64 m, .int .i64 (res (u + res (v * k))), .slice A5 j c5]) (by simp [results, Tryd.results43, go_sem, y0, y1, y2]) rfl ?_
        refine ser_mk (mixL_len _ _ _ _) ?_ (bel_three (s := w.heap.size + 2) M.out.bel (by omega))
        exact own_base (own_three (s := w.heap.size + 2) M.out.own (by omega)) (by omega))
end Go.Proofs.YtajalndghbbfdaaDoor
