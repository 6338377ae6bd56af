/- The contracts of ParseNumbers, of the program and of the reference. -/
import Derived.Test.YtjlcmafeemdneaaDoorParseI
import Derived.Test.YtjlcmafeemdneaaDoorPlainWords
import Derived.Test.YtjlcmafeemdneaaDoorOwn
namespace Go.Proofs.YtjlcmafeemdneaaDoor
open Go.RowKit Go.PlainNum

/-- what ParseNumbers gives: its numbers in memory of its own, or nil -/
def Nums (zs : List Int) (b : Bool) (w : World) (e : Ending) (w' : World) : Prop :=
  ∃ A cap, e = .returned (.tuple #[.slice A zs.length cap, .bool b]) ∧ w'.ownsRow w.heap.size 3 1 (.slice A zs.length cap) zs.length (zs.map (Value.int .i64)) ∧ Below w.heap.size w w'

theorem nums_mk {zs : List Int} {b : Bool} {w w' : World} {A : Option Addr} {n cap : Nat} (hl : zs.length = n) (h : w'.ownsRow w.heap.size 3 1 (.slice A n cap) n (zs.map (Value.int .i64))) (hb : Below w.heap.size w w') :
    Nums zs b w (.returned (.tuple #[.slice A n cap, .bool b])) w' := by
  subst hl
  exact ⟨A, cap, rfl, h, hb⟩
theorem nums_no {ps : List (List UInt8)} {w w' : World} (h : pnb ps = false) (hb : Below w.heap.size w w') : Nums (pnz ps) (pnb ps) w (.returned (.tuple #[.slice none 0 0, .bool false])) w' := by
  rw [h, pnz_no h]
  exact ⟨none, 0, rfl, World.ownsRow_nil _ _ _ _, hb⟩
theorem nums_yes {ps : List (List UInt8)} {w w' : World} {A : Option Addr} {n cap : Nat} (h : pnb ps = true) (hl : ps.length = n) (ho : w'.ownsRow w.heap.size 3 1 (.slice A n cap) n ((pnk ps n).map (Value.int .i64))) (hb : Below w.heap.size w w') :
    Nums (pnz ps) (pnb ps) w (.returned (.tuple #[.slice A n cap, .bool true])) w' := by
  have e := pnk_full ps
  rw [hl] at e
  rw [h, pnz_yes h, ← e]
  exact nums_mk (pnk_len ps n (by omega)) ho hb
theorem own_base1 {w : World} {b b' : Nat} {e : TypeId} {size n : Nat} {v : Value} {xs : List Value} (h : w.ownsRow b e size v n xs) (hb : b' ≤ b) : w.ownsRow b' e size v n xs := by
  refine ⟨h.1, ?_⟩
  rcases h.2 with h2 | ⟨g, cap, cur, hv, hg, r⟩
  · exact Or.inl h2
  · exact Or.inr ⟨g, cap, cur, hv, by omega, r⟩
theorem sparse_is (p : List UInt8) (x : Int) (b : Bool) (h : pir p = (x, b)) (w : World) (hp : p.length ≤ 1500000) :
    Calls Tryd.prog 17 #[.string (S p)] w fun e w' => e = .returned (.tuple #[.int .i64 x, .bool b]) ∧ Below w.heap.size w w' := by
  have c := sparse_any (S p) w (by rw [S_size]; omega)
  rw [S_toList, psr_pir, h] at c
  exact c
theorem parse_is (p : List UInt8) (x : Int) (b : Bool) (h : pir p = (x, b)) (m : Int) (w : World) (hp : p.length ≤ 1500000) (hm : w.cell? ⟨0, 0, none⟩ = some (.int .i64 m)) :
    Calls Tryd.prog 13 #[.string (S p)] w fun e w' => e = .returned (.tuple #[.int .i64 x, .bool b]) ∧ Below w.heap.size w w' := by
  have c := parse_any (S p) m w (by rw [S_size]; omega) hm
  rw [S_toList, h] at c
  exact c

set_option maxRecDepth 100000 in
set_option maxHeartbeats 2000000 in
theorem sparses_any (s : ByteArray) (w : World) (hs : s.size ≤ 1500000) :
    Calls Tryd.prog 5 #[.string s] w (Nums (pnz (sp 32 s.data.toList)) (pnb (sp 32 s.data.toList)) w) := by
  obtain ⟨i0, hi, hz0, hz1, hz2⟩ := info_parts infoInt
  have hsm : ∀ p ∈ sp 32 s.data.toList, p.length ≤ 1500000 := fun p hp => by
    have h1 := sp_le 32 _ p hp
    have hl : s.data.toList.length = s.size := Array.length_toList
    omega
  have hpl : (sp 32 s.data.toList).length ≤ 1500001 := by
    have h1 := sp_len 32 s.data.toList
    have hl : s.data.toList.length = s.size := Array.length_toList
    omega
  obtain ⟨ps, hps⟩ : ∃ ps, sp 32 s.data.toList = ps := ⟨_, rfl⟩
  rw [hps] at hsm hpl ⊢
  have hps := Lib.hid hps
  go_enter Tryd.func5, Tryd.ntmps5
  go_wp2_with fail
  refine (l1Cut_any s 32 32 rfl _ (by omega)).mono ?_
  rintro e w1 ⟨v1, rfl, O1, B1⟩
  rw [hps.out] at O1
  obtain ⟨n, hn⟩ : ∃ n, ps.length = n := ⟨_, rfl⟩
  rw [hn] at O1 hpl
  have hn := Lib.hid hn
  have hsm := Lib.hid hsm
  have OL : w1.ownsRow w.heap.size 3 1 (.slice (some ⟨w.heap.size, 0, none⟩) 0 0) 0 [] := own_below (World.ownsRow_lit w #[] 0 (Nat.le_refl _) (by unfold maxLen; omega) rfl) B1
  have O1 := Lib.hid O1
  have OL := Lib.hid OL
  have B1 := Lib.hid (show Below w.heap.size w w1 from ((Below.refl _ _).alloc (Nat.le_refl _) _).trans (B1.mono (by simp)))
  clear hps
  obtain ⟨C1, k1, rfl⟩ := own_nil O1.out
  have O1 := Lib.hid (own_base1 (b' := w.heap.size) O1.out (by simp))
  go_wp2_with fail
  go_loopw [4, 6] (fun o i wr => ∃ k : Nat, i = .int .i64 k ∧ k ≤ n ∧ Hid (wr.ownsRow w.heap.size 3 1 o k ((pnk ps k).map (Value.int .i64))) ∧ Hid (wr.ownsRow w.heap.size 9 1 (.slice C1 n k1) n (vals ps)) ∧ Below w.heap.size w wr ∧ Hid (∀ (j : Nat) p, ps[j]? = some p → j < k → (pir p).2 = true))
    (fun _ i _ => n - (intOf i).toNat)
  case atStart => exact ⟨0, rfl, Nat.zero_le _, Lib.hid (by rw [pnk_zero]; exact OL.out), O1, B1.out, Lib.hid (fun _ _ _ h => absurd h (by omega))⟩
  case round =>
    rename_i o wr _
    obtain ⟨k, rfl, hk, O, OW, B, E⟩ := hrel
    clear OL O1 B1
    obtain ⟨C, d, rfl⟩ := own_nil O.out
    by_cases hlt : k < n
    · obtain ⟨g1, rfl⟩ := own_form1 OW.out (by omega)
      obtain ⟨p, hp⟩ : ∃ p, ps[k]? = some p := ⟨_, List.getElem?_eq_getElem (by rw [hn.out]; exact hlt)⟩
      have c1 := OW.out.cellAt k (by omega)
      rw [show (vals ps)[k]? = some (.string (S p)) by unfold vals; rw [List.getElem?_map, hp]; rfl] at c1
      have hpl2 := hsm.out p (by obtain ⟨h1, h2⟩ := List.getElem?_eq_some_iff.1 hp; rw [← h2]; exact List.getElem_mem h1)
      obtain ⟨x, b, hx⟩ : ∃ x b, pir p = (x, b) := ⟨_, _, rfl⟩
      have hx := Lib.hid hx
      have hp := Lib.hid hp
      cases b
      · have R := pnb_no ps k p hp.out (by rw [hx.out])
        have R := Lib.hid R
        go_wp2_with (go_at_call 17; with_reducible refine (sparse_is p x _ hx.out _ hpl2).mono ?_; rintro e w2 ⟨rfl, B2⟩; have O2 := Lib.hid (own_below O.out B2); have B3 := B.trans (B2.mono B.size); have s3 := B3.size)
        go_ret2
        exact nums_no R.out B3
      · have N := Lib.hid (show (pnk ps k).map (Value.int .i64) ++ [.int .i64 x] = (pnk ps (k + 1)).map (Value.int .i64) by rw [pnk_succ ps k p hp.out, hx.out]; simp)
        have E' : Hid (∀ (j : Nat) q, ps[j]? = some q → j < k + 1 → (pir q).2 = true) := Lib.hid (fun j q hq hj => by
          rcases Nat.lt_or_ge j k with h1 | h1
          · exact E.out j q hq h1
          · obtain rfl : j = k := by omega
            rw [hp.out] at hq
            obtain rfl := Option.some.inj hq
            rw [hx.out])
        go_wp2_with (first | (go_at_call 17; with_reducible refine (sparse_is p x _ hx.out _ hpl2).mono ?_; rintro e w2 ⟨rfl, B2⟩; have O2 := Lib.hid (own_below O.out B2); have B3 := B.trans (B2.mono B.size); have s3 := B3.size) | (at_builtin; refine wpList_append_own _ rfl _ _ 22 rfl w.heap.size 3 i0 (.int .i64 0) 1 8 Tryd.underlying22 hi hz0 hz1 hz2 rfl (by decide) _ _ _ rfl (O2.out.alloc _) ⟨w2.heap.size, 0, none⟩ 1 1 [.int .i64 x] rfl rfl (cell_one_new _ _ _) (by intro u hu; simp at hu; subst hu; rfl) (by unfold maxLen; omega) (by omega) (by simp; omega) ?_))
        intro v9 w9 O9 G9 _
        rw [N.out] at O9
        have hsep := own_tags O2.out (own_below OW.out B2) (by decide)
        have OW9 := Lib.hid (own_grown (World.ownsRow.alloc (own_below OW.out B2) _) G9 (fun g hg q => by have := hsep g q; exact this hg))
        have O9 := Lib.hid O9
        have B9 := (B3.alloc s3 _).grown G9 (by simp; omega) (by intro g hg; have := O2.out.lt g hg; omega)
        clear G9 hsep
        go_wp2_with fail
        go_roundw
        case rel => exact ⟨k + 1, by go_num, by omega, O9, OW9, B9, E'⟩
        case measure => simp [intOf]; omega
    · obtain rfl : k = n := by omega
      have R := pnb_yes ps (fun j p hp => E.out j p hp (by have := (List.getElem?_eq_some_iff.1 hp).1; rw [hn.out] at this; exact this))
      have R := Lib.hid R
      clear E
      go_wp2_with fail
      go_ret2
      exact nums_yes R.out hn.out O.out B

set_option maxRecDepth 100000 in
set_option maxHeartbeats 2000000 in
theorem parses_any (s : ByteArray) (m : Int) (w : World) (hs : s.size ≤ 1500000) (hm : w.cell? ⟨0, 0, none⟩ = some (.int .i64 m)) :
    Calls Tryd.prog 6 #[.string s] w (Nums (pnz (sp 32 s.data.toList)) (pnb (sp 32 s.data.toList)) w) := by
  obtain ⟨i0, hi, hz0, hz1, hz2⟩ := info_parts infoInt
  have hsm : ∀ p ∈ sp 32 s.data.toList, p.length ≤ 1500000 := fun p hp => by
    have h1 := sp_le 32 _ p hp
    have hl : s.data.toList.length = s.size := Array.length_toList
    omega
  have hpl : (sp 32 s.data.toList).length ≤ 1500001 := by
    have h1 := sp_len 32 s.data.toList
    have hl : s.data.toList.length = s.size := Array.length_toList
    omega
  obtain ⟨ps, hps⟩ : ∃ ps, sp 32 s.data.toList = ps := ⟨_, rfl⟩
  rw [hps] at hsm hpl ⊢
  have hps := Lib.hid hps
  go_enter Tryd.func6, Tryd.ntmps6
  go_wp2_with fail
  have cS := Tryd.strings_Split s ⟨#[32]⟩ m (w.alloc (.cells #[] 3)) (by omega) (keepC ((Below.refl _ _).alloc (Nat.le_refl _) _) hm) (by decide)
  rw [splitB_sp 32 s.size s (Nat.le_refl _)] at cS
  have hN := Lib.splitB_all ⟨#[32]⟩ (by decide) 0 _ s rfl
  rw [splitB_sp 32 s.size s (Nat.le_refl _)] at hN
  rw [hps.out] at cS hN
  obtain ⟨n, hn⟩ : ∃ n, ps.length = n := ⟨_, rfl⟩
  rw [List.length_map, hn] at hN
  rw [← hN] at cS
  rw [hn] at hpl
  have hn := Lib.hid hn
  have hsm := Lib.hid hsm
  clear hN hps
  have cS := Lib.hid cS
  refine cS.out.mono ?_
  rintro e w1 ⟨rfl, hw1⟩
  have hv : List.map Value.string (List.map S ps) = vals ps := by unfold vals; rw [List.map_map]; rfl
  rw [hv] at hw1
  have O1 : w1.ownsRow w.heap.size 9 1 (.slice (some ⟨(w.alloc (.cells #[] 3)).heap.size, 0, none⟩) n n) n (vals ps) := by
    rw [hw1]
    have q := World.ownsRow_lit (base := w.heap.size) (e := 9) (size := 1) (w.alloc (.cells #[] 3)) (vals ps).toArray n (by simp) (by unfold maxLen; omega) (by unfold vals; simp [hn.out])
    simpa using q
  have B1 : Below (w.alloc (.cells #[] 3)).heap.size (w.alloc (.cells #[] 3)) w1 := by rw [hw1]; exact (Below.refl _ _).alloc (Nat.le_refl _) _
  have OL : w1.ownsRow w.heap.size 3 1 (.slice (some ⟨w.heap.size, 0, none⟩) 0 0) 0 [] := own_below (World.ownsRow_lit w #[] 0 (Nat.le_refl _) (by unfold maxLen; omega) rfl) B1
  have O1 := Lib.hid O1
  have OL := Lib.hid OL
  have B1 := Lib.hid (show Below w.heap.size w w1 from ((Below.refl _ _).alloc (Nat.le_refl _) _).trans (B1.mono (by simp)))
  clear hw1 hv
  generalize hC1 : (some (⟨(w.alloc (.cells #[] 3)).heap.size, 0, none⟩ : Addr)) = C1 at O1 ⊢
  obtain ⟨k1, hk1⟩ : ∃ k1, n = k1 := ⟨_, rfl⟩
  have O1 : Hid (w1.ownsRow w.heap.size 9 1 (.slice C1 n k1) n (vals ps)) := by rw [← hk1]; exact O1
  rw [show (Value.slice C1 n n) = .slice C1 n k1 by rw [← hk1]]
  clear hC1 hk1
  go_wp2_with fail
  go_loopw [4, 13] (fun o i wr => ∃ k : Nat, i = .int .i64 k ∧ k ≤ n ∧ Hid (wr.ownsRow w.heap.size 3 1 o k ((pnk ps k).map (Value.int .i64))) ∧ Hid (wr.ownsRow w.heap.size 9 1 (.slice C1 n k1) n (vals ps)) ∧ Below w.heap.size w wr ∧ Hid (∀ (j : Nat) p, ps[j]? = some p → j < k → (pir p).2 = true))
    (fun _ i _ => n - (intOf i).toNat)
  case atStart => exact ⟨0, rfl, Nat.zero_le _, Lib.hid (by rw [pnk_zero]; exact OL.out), O1, B1.out, Lib.hid (fun _ _ _ h => absurd h (by omega))⟩
  case round =>
    rename_i o wr _
    obtain ⟨k, rfl, hk, O, OW, B, E⟩ := hrel
    clear OL O1 B1
    obtain ⟨C, d, rfl⟩ := own_nil O.out
    by_cases hlt : k < n
    · obtain ⟨g1, rfl⟩ := own_form1 OW.out (by omega)
      obtain ⟨p, hp⟩ : ∃ p, ps[k]? = some p := ⟨_, List.getElem?_eq_getElem (by rw [hn.out]; exact hlt)⟩
      have c1 := OW.out.cellAt k (by omega)
      rw [show (vals ps)[k]? = some (.string (S p)) by unfold vals; rw [List.getElem?_map, hp]; rfl] at c1
      have hpl2 := hsm.out p (by obtain ⟨h1, h2⟩ := List.getElem?_eq_some_iff.1 hp; rw [← h2]; exact List.getElem_mem h1)
      obtain ⟨x, b, hx⟩ : ∃ x b, pir p = (x, b) := ⟨_, _, rfl⟩
      have hx := Lib.hid hx
      have hp := Lib.hid hp
      have hmr := Lib.hid (keepC B hm)
      cases b
      · have R := pnb_no ps k p hp.out (by rw [hx.out])
        have R := Lib.hid R
        go_wp2_with (go_at_call 13; with_reducible refine (parse_is p x _ hx.out m _ hpl2 hmr.out).mono ?_; rintro e w2 ⟨rfl, B2⟩; have O2 := Lib.hid (own_below O.out B2); have B3 := B.trans (B2.mono B.size); have s3 := B3.size)
        go_ret2
        exact nums_no R.out B3
      · have N := Lib.hid (show (pnk ps k).map (Value.int .i64) ++ [.int .i64 x] = (pnk ps (k + 1)).map (Value.int .i64) by rw [pnk_succ ps k p hp.out, hx.out]; simp)
        have E' : Hid (∀ (j : Nat) q, ps[j]? = some q → j < k + 1 → (pir q).2 = true) := Lib.hid (fun j q hq hj => by
          rcases Nat.lt_or_ge j k with h1 | h1
          · exact E.out j q hq h1
          · obtain rfl : j = k := by omega
            rw [hp.out] at hq
            obtain rfl := Option.some.inj hq
            rw [hx.out])
        go_wp2_with (first | (go_at_call 13; with_reducible refine (parse_is p x _ hx.out m _ hpl2 hmr.out).mono ?_; rintro e w2 ⟨rfl, B2⟩; have O2 := Lib.hid (own_below O.out B2); have B3 := B.trans (B2.mono B.size); have s3 := B3.size) | (at_builtin; refine wpList_append_own _ rfl _ _ 22 rfl w.heap.size 3 i0 (.int .i64 0) 1 8 Tryd.underlying22 hi hz0 hz1 hz2 rfl (by decide) _ _ _ rfl (O2.out.alloc _) ⟨w2.heap.size, 0, none⟩ 1 1 [.int .i64 x] rfl rfl (cell_one_new _ _ _) (by intro u hu; simp at hu; subst hu; rfl) (by unfold maxLen; omega) (by omega) (by simp; omega) ?_))
        intro v9 w9 O9 G9 _
        rw [N.out] at O9
        have hsep := own_tags O2.out (own_below OW.out B2) (by decide)
        have OW9 := Lib.hid (own_grown (World.ownsRow.alloc (own_below OW.out B2) _) G9 (fun g hg q => by have := hsep g q; exact this hg))
        have O9 := Lib.hid O9
        have B9 := (B3.alloc s3 _).grown G9 (by simp; omega) (by intro g hg; have := O2.out.lt g hg; omega)
        clear G9 hsep
        go_wp2_with fail
        go_roundw
        case rel => exact ⟨k + 1, by go_num, by omega, O9, OW9, B9, E'⟩
        case measure => simp [intOf]; omega
    · obtain rfl : k = n := by omega
      have R := pnb_yes ps (fun j p hp => E.out j p hp (by have := (List.getElem?_eq_some_iff.1 hp).1; rw [hn.out] at this; exact this))
      have R := Lib.hid R
      clear E
      go_wp2_with fail
      go_ret2
      exact nums_yes R.out hn.out O.out B
end Go.Proofs.YtjlcmafeemdneaaDoor
