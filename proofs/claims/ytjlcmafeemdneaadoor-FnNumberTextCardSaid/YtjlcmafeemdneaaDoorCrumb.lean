/- The contracts of the draw of a text that may be a number's. -/
import Derived.Test.YtjlcmafeemdneaaDoorDraw
import Derived.Test.YtjlcmafeemdneaaDoorSFmt
import Derived.Test.YtjlcmafeemdneaaDoorParse
import Derived.Test.YtjlcmafeemdneaaDoorOwn
import Derived.Test.YtjlcmafeemdneaaDoorPlainFmts
import Derived.Deep.RegionHeldLaw
namespace Go.Proofs.YtjlcmafeemdneaaDoor
open Go.RowKit Go.PlainNum

/-- a row of bytes, made a text from its head, from its midst, where nothing is left -/
def Bys (v : World) (g : Nat) (l : List UInt8) : Prop := ∀ j (hj : j < l.length), v.cell? ⟨g, j, none⟩ = some (.int .u8 (l[j].toNat : Int))
theorem conv_take {v : World} {g : Nat} {l : List UInt8} (h : Bys v g l) (k cap : Nat) (hk : k ≤ l.length) :
    (convert 28 9 (.slice (some ⟨g, 0, none⟩) k cap)).run Tryd.prog v = .ok (.string (S (l.take k))) v := by
  have hl : (l.take k).length = k := by simp; omega
  have := run_convert_bytes_back (P := Tryd.prog) v 28 9 5 ⟨g, 0, none⟩ cap (l.take k) Tryd.underlying28 Tryd.underlying5 Tryd.underlying9 (by
    intro j hj
    rw [Addr.add_lit, Nat.zero_add, h j (by omega)]
    simp)
  rw [hl] at this
  rw [this, S_def]
theorem conv_drop {v : World} {g : Nat} {l : List UInt8} (h : Bys v g l) (k m cap : Nat) (hk : k + m = l.length) :
    (convert 28 9 (.slice (some ⟨g, k, none⟩) m cap)).run Tryd.prog v = .ok (.string (S (l.drop k))) v := by
  have hl : (l.drop k).length = m := by simp; omega
  have := run_convert_bytes_back (P := Tryd.prog) v 28 9 5 ⟨g, k, none⟩ cap (l.drop k) Tryd.underlying28 Tryd.underlying5 Tryd.underlying9 (by
    intro j hj
    rw [Addr.add_lit, h (k + j) (by omega)]
    simp)
  rw [hl] at this
  rw [this, S_def]
theorem conv_empty (v : World) (a : Addr) (cap : Nat) : (convert 28 9 (.slice (some a) 0 cap)).run Tryd.prog v = .ok (.string (S [])) v := by
  have := run_convert_bytes_back (P := Tryd.prog) v 28 9 5 a cap [] Tryd.underlying28 Tryd.underlying5 Tryd.underlying9 (by intro j hj; simp at hj)
  rw [S_def]
  exact this

/-- a text that a draw leaves, of bounded length -/
def DrS (w : World) (G : Nat) (e : Ending) (w' : World) : Prop := ∃ s : ByteArray, e = .returned (.string s) ∧ s.size ≤ 1000 ∧ Cur w' G ∧ w.grownBy w' (some G)

theorem Cur.lt {w : World} {G : Nat} (h : Cur w G) : G < w.heap.size := by
  obtain ⟨A, n, cap, i, x, hG, _⟩ := h
  exact lt_of_block hG
theorem Cur.below {w w' : World} {G : Nat} (h : Cur w G) (hb : Below w.heap.size w w') : Cur w' G := by
  obtain ⟨A, n, cap, i, x, hG, hR, hi, hn⟩ := h
  have hlt := lt_of_block hG
  refine ⟨A, n, cap, i, x, (hb.block G hlt).trans hG, ?_, hi, hn⟩
  exact hR.grown ⟨hb.os, hb.tape, hb.output, hb.size, fun k hk _ => hb.block k hk⟩
theorem Cur.drew {w : World} {G : Nat} (h : Cur w G) : Cur w.drew G := h

set_option maxRecDepth 100000 in
set_option maxHeartbeats 1000000 in
/-- a pick out of a slice of texts of the caller's own -/
theorem pickS_any (G b n cap : Nat) (w : World) (C0 : Cur w G) (h0 : 0 < n) (hm : (n : Int) ≤ 1000) (hne : b ≠ G) (h : ∀ j, j < n → ∃ x : ByteArray, w.cell? ⟨b, j, none⟩ = some (.string x) ∧ x.size ≤ 1) :
    Calls Tryd.prog 54 #[.pointer (some ⟨G, 0, none⟩), .slice (some ⟨b, 0, none⟩) n cap] w fun e w' => ∃ x : ByteArray, e = .returned (.string x) ∧ x.size ≤ 1 ∧ Cur w' G ∧ w.grownBy w' (some G) := by
  have H := Lib.hid h
  have hbG := Lib.hid hne
  clear h hne
  go_enter Tryd.func54, Tryd.ntmps54
  go_wp2_with fail
  refine (below_any G n _ C0 (by omega) (by omega)).mono ?_
  rintro e w1 ⟨r1, rfl, ⟨a1, b1⟩, C1, g1⟩
  obtain ⟨k, rfl⟩ := Int.eq_ofNat_of_zero_le a1
  have hk : k < n := by omega
  obtain ⟨x, hx, hs⟩ := H.out k hk
  have c := g1.cell hx (fun e => hbG.out (by simpa using e))
  have hs := Lib.hid hs
  clear hx
  go_wp2_with fail
  go_ret
  exact ⟨x, rfl, hs.out, C1, g1⟩

set_option maxRecDepth 100000 in
set_option maxHeartbeats 1000000 in
theorem crumb_any (G : Nat) (s : ByteArray) (w : World) (C0 : Cur w G) (hs : s.size ≤ 100) :
    Calls Tryd.prog 36 #[.pointer (some ⟨G, 0, none⟩), .string s] w (DrS w G) := by
  go_enter Tryd.func36, Tryd.ntmps36
  go_wp2_with fail
  refine (below_any G 3 _ C0 (by omega) (by omega)).mono ?_
  rintro e w1 ⟨r, rfl, hr, C1, G1⟩
  by_cases h0 : r > 0
  · have t0 : decide (r > 0) = true := decide_eq_true h0
    go_wp2_with fail
    go_ret
    exact ⟨s, rfl, by omega, C1, G1⟩
  · have t0 : decide (r > 0) = false := decide_eq_false h0
    obtain ⟨n, hn⟩ : ∃ n, s.size = n := ⟨_, rfl⟩
    obtain ⟨l, hl⟩ : ∃ l, s.data.toList = l := ⟨_, rfl⟩
    have hln : l.length = n := by rw [← hl, ← hn]; exact Array.length_toList
    have hcv := run_bytes_of_string (P := Tryd.prog) w1 9 28 5 s Tryd.underlying9 Tryd.underlying28 Tryd.underlying5
    have hKge := grownCap_ge w1 s.size 0 5
    obtain ⟨K, hK⟩ : ∃ K, grownCap w1 s.size 0 5 = K := ⟨_, rfl⟩
    rw [hK, hn] at hKge
    rw [hK] at hcv
    obtain ⟨w2, hw2⟩ : ∃ w2, w1.drew.alloc (.cells (bytesRow s K) 5 ((bytesRow s K).size, (bytesRow s K).size + 1)) = w2 := ⟨_, rfl⟩
    rw [hw2, hn] at hcv
    have C2 : Cur w2 G := C1.drew.grown hw2.symm
    have G2 : w1.grownBy w2 (some G) := by rw [← hw2]; exact gb_drewN (World.grownBy.refl _ _) 1 |>.trans (World.grownBy_alloc _ _ _)
    have cells2 : ∀ j (hj : j < l.length), w2.cell? ⟨w1.heap.size, j, none⟩ = some (.int .u8 (l[j].toNat : Int)) := fun j hj => by
      rw [← hw2, cell_of_row _ w1.heap.size j _ _ _ (heap_alloc_new w1.drew _), bytesRow_at s K j (by have : s.data.size = n := hn; omega)]
      subst hl
      rfl
    have hgG : w1.heap.size ≠ G := by have := C1.lt; omega
    have cells2 := Lib.hid cells2
    have hcv := hcv
    have sz2 : w2.heap.size = w1.heap.size + 1 := by rw [← hw2]; simp
    clear hw2 hK
    go_wp2_with fail
    have hn100 : n ≤ 100 := by omega
    refine (below_any G (n + 1) _ C2 (by omega) (by omega)).mono ?_
    rintro e w3 ⟨r3, rfl, ⟨a3, b3⟩, C3, G3⟩
    obtain ⟨k, rfl⟩ := Int.eq_ofNat_of_zero_le a3
    have hk : k ≤ n := by omega
    have s3 : w1.heap.size < w3.heap.size := by
      have h1 := G3.size
      omega
    have cells3 : ∀ j (hj : j < l.length), w3.cell? ⟨w1.heap.size, j, none⟩ = some (.int .u8 (l[j].toNat : Int)) := fun j hj => G3.cell (cells2.out j hj) (fun e => hgG (by simpa using e))
    have cells3 := Lib.hid cells3
    clear cells2 hcv a3 b3
    go_wp2_with fail
    refine (pickS_any G w3.heap.size 14 14 _ (C3.grown rfl) (by omega) (by omega) (by have := C3.lt; omega) ?_).mono ?_
    · intro j hj
      rw [cell_of_row _ w3.heap.size j _ _ _ (heap_alloc_new w3 _)]
      rcases (show j = 0 ∨ j = 1 ∨ j = 2 ∨ j = 3 ∨ j = 4 ∨ j = 5 ∨ j = 6 ∨ j = 7 ∨ j = 8 ∨ j = 9 ∨ j = 10 ∨ j = 11 ∨ j = 12 ∨ j = 13 by omega) with rfl | rfl | rfl | rfl | rfl | rfl | rfl | rfl | rfl | rfl | rfl | rfl | rfl | rfl <;> exact ⟨_, rfl, by decide⟩
    rintro e w4 ⟨x, rfl, hx1, C4, G4⟩
    have G34 := (World.grownBy_alloc w3 _ (some G)).trans G4
    have cells4 : ∀ j (hj : j < l.length), w4.cell? ⟨w1.heap.size, j, none⟩ = some (.int .u8 (l[j].toNat : Int)) := fun j hj => G34.cell (cells3.out j hj) (fun e => hgG (by simpa using e))
    have cells4 := Lib.hid cells4
    have G14 := Lib.hid (((G1.trans G2).trans G3).trans G34)
    clear cells3 G34 G4 G3 G2 C3 C2
    go_wp2_with fail
    refine (once_any G 2 _ C4 (by omega) (by omega)).mono ?_
    rintro e w5 ⟨b5, rfl, C5, G5⟩
    have cells5 : ∀ j (hj : j < l.length), w5.cell? ⟨w1.heap.size, j, none⟩ = some (.int .u8 (l[j].toNat : Int)) := fun j hj => G5.cell (cells4.out j hj) (fun e => hgG (by simpa using e))
    have cells5 := Lib.hid cells5
    have G15 := Lib.hid (G14.out.trans G5)
    clear cells4 G14 G5
    have hy5 : Bys w5 w1.heap.size l := cells5.out
    have addA := fun v (a b : ByteArray) (h : a.size + b.size ≤ 1000) => run_string_add_sum (P := Tryd.prog) v a b (by omega)
    cases b5
    · by_cases hkn : k < n
      · go_wp2_with fail
        refine (once_any G 2 _ C5 (by omega) (by omega)).mono ?_
        rintro e w6 ⟨b6, rfl, C6, G6⟩
        have hy6 : Bys w6 w1.heap.size l := fun j hj => G6.cell (cells5.out j hj) (fun e => hgG (by simpa using e))
        have G16 := Lib.hid (G15.out.trans G6)
        have hyd : Bys w6.drew w1.heap.size l := hy6
        have cA := conv_take hyd k K (by omega)
        have z1 : (S (l.take k)).size ≤ 100 := by rw [S_size, List.length_take]; omega
        have z2 : (S (l.drop (k + 1))).size ≤ 100 := by rw [S_size, List.length_drop]; omega
        have z3 : (S (l.take k) ++ x).size ≤ 101 := by rw [ByteArray.size_append]; omega
        have zz1 : (S (l.take k) ++ S (l.drop (k + 1))).size ≤ 1000 := by rw [ByteArray.size_append]; omega
        have zz2 : (S (l.take k) ++ x ++ S (l.drop (k + 1))).size ≤ 1000 := by rw [ByteArray.size_append]; omega
        have q2 := fun v => addA v (S (l.take k)) x (by omega)
        have q1 := fun v => addA v (S (l.take k)) (S (l.drop (k + 1))) (by omega)
        have q3 := fun v => addA v (S (l.take k) ++ x) (S (l.drop (k + 1))) (by omega)
        have f1 : (k : Int) ≤ (K : Int) := by omega
        have f2 : (k : Int) + 1 ≤ (n : Int) := by omega
        have f3 : (k : Int) + 1 ≤ (K : Int) := by omega
        have f4 : (0 : Int) ≤ (k : Int) := by omega
        have f5 : (k : Int) ≤ (n : Int) := by omega
        have f6 : IntKind.i64.wrap ((k : Int) + 1) = (k : Int) + 1 := by rw [IntKind.wrap_i64]; omega
        have f7 : (0 : Int) ≤ (k : Int) + 1 := by omega
        clear hy5 cells5 addA
        by_cases hK1 : K = k + 1
        · have hn1 : n = k + 1 := by omega
          subst hK1
          subst hn1
          have hD : l.drop (k + 1) = [] := List.drop_of_length_le (by omega)
          rw [hD] at z2 zz1 zz2 q1 q3
          have zz1 := Lib.hid zz1
          have zz2 := Lib.hid zz2
          have ce : ∀ (a : Addr) cap, (convert 28 9 (.slice (some a) 0 cap)).run Tryd.prog w6.drew = .ok (.string (S [])) w6.drew := fun a cap => conv_empty _ a cap
          clear z1 z2 z3 hyd hy6
          cases b6
          · go_wp2_with fail
            go_region_held_law (fun w' => w'.heap.size = w6.heap.size) (first | rfl | simp) (fail)
            all_goals go_wp2_with fail
            all_goals go_ret
            all_goals exact ⟨_, rfl, zz2.out, C6, gb_drewN G16.out 1⟩
          · go_wp2_with fail
            go_region_held_law (fun w' => w'.heap.size = w6.heap.size) (first | rfl | simp) (fail)
            all_goals go_wp2_with fail
            all_goals go_ret
            all_goals exact ⟨_, rfl, zz1.out, C6, gb_drewN G16.out 1⟩
        · have cB : ∀ cap, (convert 28 9 (.slice (some ⟨w1.heap.size, k + 1, none⟩) (n - (k + 1)) cap)).run Tryd.prog w6.drew = .ok (.string (S (l.drop (k + 1)))) w6.drew := fun cap => conv_drop hyd (k + 1) _ cap (by omega)
          have zz1 := Lib.hid zz1
          have zz2 := Lib.hid zz2
          clear z1 z2 z3 hyd hy6
          cases b6
          · go_wp2_with fail
            go_region_held_law (fun w' => w'.heap.size = w6.heap.size) (first | rfl | simp) (fail)
            all_goals go_wp2_with fail
            all_goals go_ret
            all_goals exact ⟨_, rfl, zz2.out, C6, gb_drewN G16.out 1⟩
          · go_wp2_with fail
            go_region_held_law (fun w' => w'.heap.size = w6.heap.size) (first | rfl | simp) (fail)
            all_goals go_wp2_with fail
            all_goals go_ret
            all_goals exact ⟨_, rfl, zz1.out, C6, gb_drewN G16.out 1⟩
      · go_wp2_with fail
        go_ret
        exact ⟨s, rfl, by omega, C5, G15.out⟩
    · have hyd : Bys w5.drew w1.heap.size l := hy5
      have cA := conv_take hyd k K (by omega)
      have z1 : (S (l.take k)).size ≤ 100 := by rw [S_size, List.length_take]; omega
      have z2 : (S (l.drop k)).size ≤ 100 := by rw [S_size, List.length_drop]; omega
      have z3 : (S (l.take k) ++ x).size ≤ 101 := by rw [ByteArray.size_append]; omega
      have zz2 : (S (l.take k) ++ x ++ S (l.drop k)).size ≤ 1000 := by rw [ByteArray.size_append]; omega
      have q2 := fun v => addA v (S (l.take k)) x (by omega)
      have q3 := fun v => addA v (S (l.take k) ++ x) (S (l.drop k)) (by omega)
      have f1 : (k : Int) ≤ (K : Int) := by omega
      have f4 : (0 : Int) ≤ (k : Int) := by omega
      have f5 : (k : Int) ≤ (n : Int) := by omega
      clear cells5 addA
      by_cases hK1 : K = k
      · have hn1 : n = k := by omega
        subst hK1
        subst hn1
        have hD : l.drop n = [] := List.drop_of_length_le (by omega)
        rw [hD] at z2 zz2 q3
        have zz2 := Lib.hid zz2
        have ce : ∀ (a : Addr) cap, (convert 28 9 (.slice (some a) 0 cap)).run Tryd.prog w5.drew = .ok (.string (S [])) w5.drew := fun a cap => conv_empty _ a cap
        clear z1 z2 z3 hyd hy5
        go_wp2_with fail
        go_region_held_law (fun w' => w'.heap.size = w5.heap.size) (first | rfl | simp) (fail)
        all_goals go_wp2_with fail
        all_goals go_ret
        all_goals exact ⟨_, rfl, zz2.out, C5, gb_drewN G15.out 1⟩
      · have cB : ∀ cap, (convert 28 9 (.slice (some ⟨w1.heap.size, k, none⟩) (n - k) cap)).run Tryd.prog w5.drew = .ok (.string (S (l.drop k))) w5.drew := fun cap => conv_drop hyd k _ cap (by omega)
        have zz2 := Lib.hid zz2
        clear z1 z2 z3 hyd hy5
        go_wp2_with fail
        go_region_held_law (fun w' => w'.heap.size = w5.heap.size) (first | rfl | simp) (fail)
        all_goals go_wp2_with fail
        all_goals go_ret
        all_goals exact ⟨_, rfl, zz2.out, C5, gb_drewN G15.out 1⟩

/-- what a draw of a text leaves -/
def DrT (w : World) (e : Ending) (w' : World) : Prop := ∃ s : ByteArray, e = .returned (.string s) ∧ s.size ≤ 1000 ∧ Below w.heap.size w w'
set_option maxRecDepth 100000 in
set_option maxHeartbeats 1000000 in
theorem drawParse_any (A : Option Addr) (n cap : Nat) (w : World) (h : RdB w w.heap.size A n) (hn : (n : Int) ≤ 1000000000) :
    Calls Tryd.prog 16 #[.slice A n cap] w (DrT w) := by
  go_enter Tryd.func16, Tryd.ntmps16
  go_wp2_with fail
  refine (new_any A n cap _ h hn).mono ?_
  rintro e w1 ⟨rfl, C1, B1⟩
  go_wp2_with fail
  refine (num_any w.heap.size _ C1).mono ?_
  rintro e w2 ⟨r2, rfl, h2, C2, G2⟩
  go_wp2_with fail
  refine (sfmt_any r2 _).mono ?_
  rintro e w3 ⟨rfl, B3⟩
  have hlen := fmtL_len r2
  have s2 := C2.lt
  have C3 : Cur w3 w.heap.size := C2.below B3
  have X3 := (B1.grown G2 B1.size (fun k hk => by cases hk; exact Nat.le_refl _)).trans (B3.mono (by omega))
  go_wp2_with fail
  refine (crumb_any w.heap.size _ _ C3 (by rw [S_size]; omega)).mono ?_
  rintro e w4 ⟨s, rfl, hs, C4, G4⟩
  have hs := Lib.hid hs
  have X4 := Lib.hid (X3.grown G4 X3.size (fun k hk => by cases hk; exact Nat.le_refl _))
  go_wp2_with fail
  go_ret
  exact ⟨s, rfl, hs.out, X4.out⟩
end Go.Proofs.YtjlcmafeemdneaaDoor
