/- The draw of a system of equations. -/
import Derived.Test.YtkpbaaigopheeaaDraw
import Derived.Test.YtkpbaaigopheeaaSSol
namespace Go.Proofs.Ytkpbaaigopheeaa
open Go.RowKit Go.PlainNum

/-- what is new may turn -/
theorem gb_new {w w1 w2 : World} {row row2 : Option Nat} (h : w.grownBy w1 row) (g : w1.grownBy w2 row2) (hr : ∀ k, row2 = some k → w.heap.size ≤ k) : w.grownBy w2 row :=
  ⟨g.os.trans h.os, g.tape.trans h.tape, g.output.trans h.output, Nat.le_trans h.size g.size, fun k hk hne => (g.block k (Nat.lt_of_lt_of_le hk h.size) (fun e => by have := hr k e.symm; omega)).trans (h.block k hk hne)⟩
theorem Cur.by {w w' : World} {G : Nat} {row : Option Nat} (h : Cur w G) (hg : w.grownBy w' row) (hr : ∀ k, row = some k → G < k) : Cur w' G := by
  obtain ⟨A, n, cap, i, x, hG, hR, hi, hn⟩ := h
  refine ⟨A, n, cap, i, x, (hg.block G (lt_of_block hG) (fun e => by have := hr G e.symm; omega)).trans hG, fun h0 => ?_, hi, hn⟩
  obtain ⟨b, off, e, hb, hc⟩ := hR h0
  refine ⟨b, off, e, hb, fun j hj => ?_⟩
  obtain ⟨y, h1, h2, hy⟩ := hc j hj
  exact ⟨y, h1, h2, hg.cell hy (fun e => by have := hr b e.symm; omega)⟩
theorem Cur.lt {w : World} {G : Nat} (h : Cur w G) : G < w.heap.size := by obtain ⟨A, n, cap, i, x, hG, _⟩ := h; exact lt_of_block hG
theorem Bld.grown {w w' : World} {base k W G : Nat} {v : Value} {bs ks : Nat → Nat} {R : Nat → List Int} (h : Bld w base v k W bs ks R) (hg : w.grownBy w' (some G)) (hG : G < base) : Bld w' base v k W bs ks R :=
  ⟨own_grown h.out hg (fun g q e => by have := (h.out.lt g q).1; have := Option.some.inj e; omega), fun i hi => own_grown (h.row i hi) hg (fun g q e => by have := ((h.row i hi).lt g q).1; have := Option.some.inj e; omega), h.apart⟩
theorem Tob.grown {w w' : World} {base n G : Nat} {v : Value} {bs ks : Nat → Nat} {R : Nat → List Int} (h : Tob w base v n bs ks R) (hg : w.grownBy w' (some G)) (hG : G < base) : Tob w' base v n bs ks R :=
  ⟨own_grown h.out hg (fun g q e => by have := (h.out.lt g q).1; have := Option.some.inj e; omega), fun i hi => own_grown (h.row i hi) hg (fun g q e => by have := ((h.row i hi).lt g q).1; have := Option.some.inj e; omega), h.apart⟩
/-- a header laid anew for a row that stands -/
theorem Tob.put {w2 : World} {base n g cap i g2 c2 : Nat} {bs ks : Nat → Nat} {R : Nat → List Int} {r : List Int} (h : Tob w2 base (.slice (some ⟨g, 0, none⟩) n cap) n bs ks R) (hi : i < n)
    (O2 : w2.ownsRow base 3 1 (.slice (some ⟨g2, 0, none⟩) r.length c2) r.length (r.map (Value.int .i64))) (ne : ∀ j, j < n → bs j ≠ g2) :
    Tob (w2.setCell ⟨g, i, none⟩ (.slice (some ⟨g2, 0, none⟩) r.length c2)) base (.slice (some ⟨g, 0, none⟩) n cap) n (put bs i g2) (put ks i c2) (put R i r) := by
  have S := h.out.stored i (.slice (some ⟨g2, 0, none⟩) r.length c2)
  rw [hdv_set] at S
  have keep : ∀ {b c : Nat} {r : List Int} {W : Nat}, w2.ownsRow base 3 1 (.slice (some ⟨b, 0, none⟩) W c) W (r.map (Value.int .i64)) → World.ownsRow (w2.setCell ⟨g, i, none⟩ _) base 3 1 (.slice (some ⟨b, 0, none⟩) W c) W (r.map (Value.int .i64)) := fun q =>
    own_grown q S.2 (fun g' hg => own_tags q h.out (by decide) g' hg)
  refine ⟨S.1, fun j hj => ?_, fun j j' hj hj' hne => ?_⟩
  · by_cases hji : j = i
    · subst hji; rw [put_at, put_at, put_at]; exact keep O2
    · have e1 : Go.Proofs.Ytkpbaaigopheeaa.put bs i g2 j = bs j := if_neg hji
      have e2 : Go.Proofs.Ytkpbaaigopheeaa.put ks i c2 j = ks j := if_neg hji
      have e3 : Go.Proofs.Ytkpbaaigopheeaa.put R i r j = R j := if_neg hji
      rw [e1, e2, e3]
      exact keep (h.row j hj)
  · by_cases hji : j = i
    · subst hji
      have e1 : Go.Proofs.Ytkpbaaigopheeaa.put bs j g2 j' = bs j' := if_neg (fun e => hne e.symm)
      rw [put_at, e1]
      exact fun e => ne j' hj' e.symm
    · have e1 : Go.Proofs.Ytkpbaaigopheeaa.put bs i g2 j = bs j := if_neg hji
      rw [e1]
      by_cases hji' : j' = i
      · subst hji'; rw [put_at]; exact ne j hj
      · have e1 : Go.Proofs.Ytkpbaaigopheeaa.put bs i g2 j' = bs j' := if_neg hji'
        rw [e1]; exact h.apart j j' hj hj' hne
theorem Tob.rdt {w : World} {base n g cap : Nat} {bs ks : Nat → Nat} {R : Nat → List Int} (h : Tob w base (.slice (some ⟨g, 0, none⟩) n cap) n bs ks R) : RdT w w.heap.size (some ⟨g, 0, none⟩) n R := by
  intro hn
  have hg := h.out.lt g rfl
  refine ⟨g, 0, rfl, hg.2, fun j hj => ⟨some ⟨bs j, 0, none⟩, ks j, ?_, ?_⟩⟩
  · rw [Nat.zero_add, h.out.cellAt j (by omega), hdv_get _ _ _ _ _ hj]
  · exact own_rd (h.row j hj)

/-- what a draw of numbers leaves -/
def DrN (w : World) (G n : Nat) (e : Ending) (w' : World) : Prop :=
  ∃ (A : Option Addr) (c : Nat) (zs : List Int), e = .returned (.slice A n c) ∧ w'.ownsRow w.heap.size 3 1 (.slice A n c) n (zs.map (Value.int .i64)) ∧ (∀ z ∈ zs, IsNum z) ∧ Cur w' G ∧ w.grownBy w' (some G)

set_option maxRecDepth 100000 in
set_option maxHeartbeats 2000000 in
theorem nums_any (G n : Nat) (w : World) (C0 : Cur w G) (hn : n ≤ 1000) :
    Calls Try.prog 26 #[.pointer (some ⟨G, 0, none⟩), .int .i64 n] w (DrN w G n) := by
  obtain ⟨i0, hi0, hz0, hz1, hz2⟩ := info_parts infoInt
  have hGw := C0.lt
  have C0 := Lib.hid C0
  go_enter Try.func26, Try.ntmps26
  go_wp2_with fail
  go_loopw [5, 6] (fun p i wr => ∃ (k : Nat) (zs : List Int), i = .int .i64 k ∧ k ≤ n ∧ Hid (wr.ownsRow w.heap.size 3 1 p k (zs.map (Value.int .i64))) ∧ Hid (∀ z ∈ zs, IsNum z) ∧ Hid (Cur wr G) ∧ Hid (w.grownBy wr (some G))) (fun _ i _ => n - (intOf i).toNat)
  case atStart => exact ⟨0, [], rfl, Nat.zero_le _, Lib.hid (World.ownsRow_lit w #[] 0 (Nat.le_refl _) (by unfold maxLen; omega) rfl), Lib.hid (by simp), Lib.hid (C0.out.grown rfl), Lib.hid (World.grownBy_alloc _ _ _)⟩
  case round =>
    rename_i p wr _
    obtain ⟨k, zs, rfl, hk, HO, HN, HC, HG⟩ := hrel
    obtain ⟨Cp, d, rfl⟩ := own_nil HO.out
    have szr : w.heap.size ≤ wr.heap.size := HG.out.size
    by_cases hlt : k < n
    · go_wp2_with fail
      refine (num_any G _ HC.out).mono ?_
      rintro e w1 ⟨r, rfl, hr, C1, G1⟩
      have O1 := Lib.hid (own_grown HO.out G1 (fun g q e => by have := (HO.out.lt g q).1; have := Option.some.inj e; omega))
      have G1 := Lib.hid (HG.out.trans G1)
      have C1 := Lib.hid C1
      have sz1 : w.heap.size ≤ w1.heap.size := G1.out.size
      go_wp2_with (at_builtin; refine wpList_append_own _ rfl _ _ 25 rfl w.heap.size 3 i0 (.int .i64 0) 1 8 Try.underlying25 hi0 hz0 hz1 hz2 rfl (by decide) _ _ _ rfl (O1.out.alloc _) ⟨w1.heap.size, 0, none⟩ 1 1 [.int .i64 r] rfl rfl (cell_one_new _ _ _) (by intro u hu; simp at hu; subst hu; rfl) (by unfold maxLen; omega) (by omega) (by simp; omega) ?_)
      intro v2 w2 O2 G2 _
      have hown : ∀ q, (Value.slice Cp k d).ownBlock = some q → w.heap.size ≤ q := fun q hq => (HO.out.lt q hq).1
      have Y1 := Lib.hid (show w2.ownsRow w.heap.size 3 1 v2 (k + 1) ((zs ++ [r]).map (Value.int .i64)) by simpa using O2)
      have Y2 := Lib.hid (gb_new (gb_new G1.out (World.grownBy_alloc w1 (.cells #[.int .i64 r] 3) none) (fun k q => by cases q)) G2 hown)
      have Y3 := Lib.hid ((C1.out.grown rfl).by G2 (fun q hq => by have := hown q hq; omega))
      have Y4 : Hid (∀ z ∈ zs ++ [r], IsNum z) := Lib.hid (fun z hz => by
        rw [List.mem_append] at hz
        rcases hz with hz | hz
        · exact HN.out z hz
        · simp at hz; subst hz; exact hr)
      clear O2 G2 hown hr
      go_wp2_with fail
      go_roundw
      case rel => exact ⟨k + 1, _, by go_num, by omega, Y1, Y4, Y3, Y2⟩
      case measure => simp [intOf]; omega
    · obtain rfl : k = n := by omega
      go_wp2_with fail
      go_ret
      exact ⟨_, _, zs, rfl, HO.out, HN.out, HC.out, HG.out⟩

/-- what a draw of a path leaves -/
def DrP (w : World) (G n W : Nat) (e : Ending) (w' : World) : Prop :=
  ∃ (v : Value) (bs ks : Nat → Nat) (R : Nat → List Int), e = .returned v ∧ Bld w' w.heap.size v n W bs ks R ∧ (∀ j, j < n → ∀ z ∈ R j, IsNum z) ∧ Cur w' G ∧ w.grownBy w' (some G)

set_option maxRecDepth 100000 in
set_option maxHeartbeats 2000000 in
theorem path_any (G n W : Nat) (w : World) (C0 : Cur w G) (hn : n ≤ 1000) (hW : W ≤ 1000) (hW1 : 0 < W) :
    Calls Try.prog 23 #[.pointer (some ⟨G, 0, none⟩), .int .i64 W, .int .i64 n] w (DrP w G n W) := by
  obtain ⟨i1, hi1, hy0, hy1, hy2⟩ := info_parts infoRow
  have hGw := C0.lt
  have C0 := Lib.hid C0
  go_enter Try.func23, Try.ntmps23
  go_wp2_with fail
  go_loopw [7, 8] (fun p i wr => ∃ (k : Nat) (bs ks : Nat → Nat) (R : Nat → List Int), i = .int .i64 k ∧ k ≤ n ∧ Hid (Bld wr w.heap.size p k W bs ks R) ∧ Hid (∀ j, j < k → ∀ z ∈ R j, IsNum z) ∧ Hid (Cur wr G) ∧ Hid (w.grownBy wr (some G))) (fun _ i _ => n - (intOf i).toNat)
  case atStart => exact ⟨0, fun _ => 0, fun _ => 0, fun _ => [], rfl, Nat.zero_le _, Lib.hid (bld_zero w), Lib.hid (fun j hj => absurd hj (by omega)), Lib.hid (C0.out.grown rfl), Lib.hid (World.grownBy_alloc _ _ _)⟩
  case round =>
    rename_i p wr _
    obtain ⟨k, bs, ks, R, rfl, hk, HM, HN, HC, HG⟩ := hrel
    obtain ⟨Cp, d, rfl⟩ := own_nil HM.out.out
    have szr : w.heap.size ≤ wr.heap.size := HG.out.size
    by_cases hlt : k < n
    · go_wp2_with fail
      refine (nums_any G W _ HC.out hW).mono ?_
      rintro e w1 ⟨A1, c1, zs, rfl, O1, hzs, C1, G1⟩
      obtain ⟨g1, rfl⟩ := own_form O1 hW1
      have M1 := Lib.hid (HM.out.grown G1 hGw)
      have A1 := Lib.hid (fun i (hi : i < k) => (by have h1 := (row_lt (HM.out.row i hi)).2; have h2 := (row_lt O1).1; omega : bs i ≠ g1))
      have G1 := Lib.hid (HG.out.trans G1)
      have C1 := Lib.hid C1
      have sz1 : w.heap.size ≤ w1.heap.size := G1.out.size
      have O1 := Lib.hid (own_lower O1 szr)
      have hzs := Lib.hid hzs
      go_wp2_with (at_builtin; refine wpList_append_own _ rfl _ _ 24 rfl w.heap.size 25 i1 (.slice none 0 0) 1 24 Try.underlying24 hi1 hy0 hy1 hy2 rfl (by decide) _ _ _ rfl (M1.out.out.alloc _) ⟨w1.heap.size, 0, none⟩ 1 1 [.slice (some ⟨g1, 0, none⟩) W c1] rfl rfl (cell_one_new _ _ _) (by intro u hu; simp at hu; subst hu; rfl) (by unfold maxLen; omega) (by omega) (by simp; omega) ?_)
      intro v2 w2 O2 G2 _
      have hown : ∀ q, (Value.slice Cp k d).ownBlock = some q → w.heap.size ≤ q := fun q hq => (HM.out.out.lt q hq).1
      have X2 := Lib.hid ((M1.out.below ((Below.refl _ _).alloc (Nat.le_refl _) _)).push O2 G2 (own_below O1.out ((Below.refl _ _).alloc (Nat.le_refl _) _)) A1.out)
      have Y2 := Lib.hid (gb_new (gb_new G1.out (World.grownBy_alloc w1 (.cells #[.slice (some ⟨g1, 0, none⟩) W c1] 25) none) (fun k q => by cases q)) G2 hown)
      have Y3 := Lib.hid ((C1.out.grown rfl).by G2 (fun q hq => by have := hown q hq; omega))
      have Y4 : Hid (∀ j, j < k + 1 → ∀ z ∈ put R k zs j, IsNum z) := Lib.hid (fun j hj z hz => by
        by_cases hjk : j = k
        · subst hjk; rw [put_at] at hz; exact hzs.out z hz
        · rw [put_lt _ _ _ (by omega)] at hz; exact HN.out j (by omega) z hz)
      clear O2 G2 hown
      go_wp2_with fail
      go_roundw
      case rel => exact ⟨k + 1, _, _, _, by go_num, by omega, X2, Y4, Y3, Y2⟩
      case measure => simp [intOf]; omega
    · obtain rfl : k = n := by omega
      go_wp2_with fail
      go_ret
      exact ⟨_, bs, ks, R, rfl, HM.out, HN.out, HC.out, HG.out⟩

/-- what a draw of a system leaves -/
def DrS (w w' : World) (e : Ending) : Prop :=
  ∃ (g cap n W : Nat) (bs ks : Nat → Nat) (R : Nat → List Int) (A : Option Addr) (c : Nat) (zs : List Int), e = .returned (.tuple #[.slice (some ⟨g, 0, none⟩) n cap, .slice A n c]) ∧ 0 < n ∧ n ≤ 5 ∧ 0 < W ∧ W ≤ 5 ∧
    Tob w' w.heap.size (.slice (some ⟨g, 0, none⟩) n cap) n bs ks R ∧ (∀ j, j < n → (R j).length = W ∧ ∀ z ∈ R j, IsNum z) ∧ w'.ownsRow w.heap.size 3 1 (.slice A n c) n (zs.map (Value.int .i64)) ∧ (∀ z ∈ zs, IsNum z) ∧ Below w.heap.size w w'

set_option maxRecDepth 100000 in
set_option maxHeartbeats 4000000 in
theorem drawSystem_any (A : Option Addr) (n0 cap0 : Nat) (w : World) (h : RdB w w.heap.size A n0) (hn0 : (n0 : Int) ≤ 1000000000) :
    Calls Try.prog 7 #[.slice A n0 cap0] w fun e w' => DrS w w' e := by
  obtain ⟨i0, hi0, hz0, hz1, hz2⟩ := info_parts infoInt
  go_enter Try.func7, Try.ntmps7
  go_wp2_with fail
  refine (new_any A n0 cap0 _ h hn0).mono ?_
  rintro e w0 ⟨rfl, C0, B0⟩
  go_wp2_with fail
  refine (below_any w.heap.size 5 _ C0 (by omega) (by omega)).mono ?_
  rintro e w1 ⟨r1, rfl, ⟨a1, b1⟩, C1, g1⟩
  go_wp2_with fail
  refine (below_any w.heap.size 5 _ C1 (by omega) (by omega)).mono ?_
  rintro e w2 ⟨r2, rfl, ⟨a2, b2⟩, C2, g2⟩
  obtain ⟨m1, rfl⟩ := Int.eq_ofNat_of_zero_le a1
  obtain ⟨m2, rfl⟩ := Int.eq_ofNat_of_zero_le a2
  have B2 := Lib.hid (B0.grown (g1.trans g2) B0.size (fun k hk => by cases hk; exact Nat.le_refl _))
  have hG2 := C2.lt
  have C2 := Lib.hid C2
  obtain ⟨W, hW⟩ : ∃ W, m1 + 1 = W := ⟨_, rfl⟩
  obtain ⟨n, hn⟩ : ∃ n, m2 + 1 = n := ⟨_, rfl⟩
  have e1 : Hid ((1 : Int) + (m1 : Int) = (W : Int)) := Lib.hid (by omega)
  have e2 : Hid ((1 : Int) + (m2 : Int) = (n : Int)) := Lib.hid (by omega)
  have hW1 : 0 < W ∧ W ≤ 5 := by omega
  have hn1 : 0 < n ∧ n ≤ 5 := by omega
  clear C0 C1 g1 g2 hW hn B0 h
  go_wp2_with fail
  rw [e1.out, e2.out]
  refine (path_any w.heap.size n W _ C2.out (by omega) (by omega) hW1.1).mono ?_
  rintro e w3 ⟨v3, bs3, ks3, R3, rfl, M3, hN3, C3, g3⟩
  have B3 := Lib.hid (B2.out.grown g3 B2.out.size (fun k hk => by cases hk; exact Nat.le_refl _))
  have hR3 : ∀ j, j < n → (R3 j).length = W := fun j hj => by have := (M3.row j hj).1; simpa using this
  obtain ⟨g, cap, rfl, -⟩ := M3.mat hn1.1
  have T3 := Lib.hid (M3.tob hR3)
  have P3 : Hid (∀ j, j < n → (R3 j).length = W ∧ ∀ z ∈ R3 j, IsNum z) := Lib.hid (fun j hj => ⟨hR3 j hj, hN3 j hj⟩)
  have C3 := Lib.hid C3
  have hs2 := B2.out.size
  clear M3 hN3 hR3 g3 e1 e2
  go_wp2_with fail
  go_loopw [6] (fun x wr => ∃ (i : Nat) (bs ks : Nat → Nat) (R : Nat → List Int), x = .int .i64 i ∧ 1 ≤ i ∧ i ≤ n ∧ Hid (Tob wr w2.heap.size (.slice (some ⟨g, 0, none⟩) n cap) n bs ks R) ∧ Hid (∀ j, j < n → (R j).length = W ∧ ∀ z ∈ R j, IsNum z) ∧ Hid (Cur wr w.heap.size) ∧ Hid (Below w.heap.size w wr)) (fun x _ => n - (intOf x).toNat)
  case atStart => exact ⟨1, bs3, ks3, R3, rfl, by omega, by omega, T3, P3, C3, B3⟩
  case round =>
    obtain ⟨i, bs, ks, R, rfl, hi1, hin, HM, HP, HC, HB⟩ := hrel
    by_cases hlt : i < n
    · go_wp2_with fail
      refine (once_any w.heap.size 3 _ HC.out (by omega) (by omega)).mono ?_
      rintro e w4 ⟨b4, rfl, C4, g4⟩
      have T4 := HM.out.grown g4 hG2
      have B4 := Lib.hid (HB.out.grown g4 HB.out.size (fun k hk => by cases hk; exact Nat.le_refl _))
      have C4 := Lib.hid C4
      have sz4 : w2.heap.size ≤ w4.heap.size := by have := (T4.out.lt g rfl); omega
      have T4 := Lib.hid T4
      cases b4
      · go_wp2_with fail
        go_roundw
        case rel => exact ⟨i + 1, bs, ks, R, by go_num, by omega, by omega, T4, HP, C4, B4⟩
        case measure => simp [intOf]; omega
      · have hl0 := (HP.out 0 hn1.1).1
        have O0 := T4.out.row 0 hn1.1
        rw [hl0] at O0
        have m0 : w4.cell? ⟨g, 0, none⟩ = some (.slice (some ⟨bs 0, 0, none⟩) W (ks 0)) := by rw [T4.out.out.cellAt 0 (by omega), hdv_get _ _ _ _ _ hn1.1, hl0]
        have hgl := (T4.out.out.lt g rfl)
        have al : Below w4.heap.size w4 (w4.alloc (.cells #[] 3)) := (Below.refl _ _).alloc (Nat.le_refl _) _
        have m0' : (w4.alloc (.cells #[] 3)).cell? ⟨g, 0, none⟩ = some (.slice (some ⟨bs 0, 0, none⟩) W (ks 0)) := (al.cell (p := ⟨g, 0, none⟩) hgl.2).trans m0
        have R0 := Lib.hid ((own_rd O0).below al (Nat.le_refl _))
        have OL := Lib.hid (World.ownsRow_lit (base := w4.heap.size) (e := 3) (size := 1) w4 #[] 0 (Nat.le_refl _) (by unfold maxLen; omega) rfl)
        clear m0 O0 hl0
        go_wp2_with (at_builtin; refine wpList_append_rd rfl _ _ 25 rfl w4.heap.size 3 i0 (.int .i64 0) 8 Try.underlying25 hi0 hz0 hz1 hz2 rfl _ 0 [] rfl OL.out (some ⟨bs 0, 0, none⟩) W (ks 0) (R 0) w4.heap.size rfl R0.out (by intro q; cases q) (by unfold maxLen; omega) (by omega) (by simp) ?_)
        intro v5 w5 O5 G5
        have B5 : Below w4.heap.size w4 w5 := ((Below.refl _ _).alloc (Nat.le_refl _) _).grown G5 (by simp) (by intro q hq; simp [Value.ownBlock] at hq; omega)
        have O5 : w5.ownsRow w4.heap.size 3 1 v5 W ((R 0).map (Value.int .i64)) := by simpa using O5
        obtain ⟨A5, c5, rfl⟩ := own_nil O5
        obtain ⟨g5, rfl⟩ := own_form O5 hW1.1
        have hW0 := (HP.out 0 hn1.1).1
        have T5 := T4.out.below B5
        have h5 := row_lt O5
        have C5 := C4.out.by (G5.trans (World.grownBy.refl _ _) |> fun q => (gb_new (World.grownBy_alloc w4 (.cells #[] 3) none) q (fun k hk => by simp [Value.ownBlock] at hk; omega))) (fun k q => by cases q)
        have X5 := T5.put hlt (r := R 0) (g2 := g5) (c2 := c5) (by rw [hW0]; exact own_lower O5 sz4) (fun j hj e => by have := (row_lt (T4.out.row j hj)).2; omega)
        rw [hW0] at X5
        have S5 := T5.out.stored i (.slice (some ⟨g5, 0, none⟩) W c5)
        have Y5 := Lib.hid (B4.out.trans (B5.mono (by omega)) |>.setCell (p := ⟨g, i, none⟩) (show w.heap.size ≤ g by omega) (.slice (some ⟨g5, 0, none⟩) W c5))
        have Z5 := Lib.hid (C5.by S5.2 (fun k hk => by have := Option.some.inj hk; omega))
        have X5 := Lib.hid X5
        have P5 : Hid (∀ j, j < n → (put R i (R 0) j).length = W ∧ ∀ z ∈ put R i (R 0) j, IsNum z) := Lib.hid (fun j hj => by
          by_cases hji : j = i
          · subst hji; rw [put_at]; exact HP.out 0 hn1.1
          · have e : put R i (R 0) j = R j := if_neg hji
            rw [e]; exact HP.out j hj)
        have f5 := T5.out.frozenAt i
        have c5' : ∃ u, w5.cell? ⟨g, i, none⟩ = some u := by rw [T5.out.cellAt i (by omega), List.getElem?_eq_getElem (by rw [hdv_len]; exact hlt)]; exact ⟨_, rfl⟩
        obtain ⟨u5, c5'⟩ := c5'
        clear O5 G5 B5 T5 C5 S5 OL R0 al hW0
        go_wp2_with fail
        go_roundw
        case rel => exact ⟨i + 1, _, _, _, by go_num, by omega, by omega, X5, P5, Z5, Y5⟩
        case measure => simp [intOf]; omega
    · obtain rfl : i = n := by omega
      have szr : w2.heap.size ≤ wr.heap.size := by have := (HM.out.out.lt g rfl); omega
      go_wp2_with fail
      refine (nums_any w.heap.size i _ HC.out (by omega)).mono ?_
      rintro e w6 ⟨A6, c6, zs, rfl, O6, hzs, C6, g6⟩
      have T6 := HM.out.grown g6 hG2
      have B6 := Lib.hid (HB.out.grown g6 HB.out.size (fun k hk => by cases hk; exact Nat.le_refl _))
      have R : Hid (DrS w w6 (.returned (.tuple #[.slice (some ⟨g, 0, none⟩) i cap, .slice A6 i c6]))) := Lib.hid ⟨g, cap, i, W, bs, ks, R, A6, c6, zs, rfl, hn1.1, hn1.2, hW1.1, hW1.2, ⟨own_lower T6.out (by omega), fun j hj => own_lower (T6.row j hj) (by omega), T6.apart⟩, HP.out, own_lower O6 (by omega), hzs, B6.out⟩
      clear T6 O6 hzs C6 g6
      go_wp2_with fail
      go_ret2
      exact R.out
end Go.Proofs.Ytkpbaaigopheeaa
