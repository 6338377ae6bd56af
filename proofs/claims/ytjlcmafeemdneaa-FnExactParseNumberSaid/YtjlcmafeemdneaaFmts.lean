/- The contracts of FormatNumbers, of the program and of the reference. -/
import Derived.Test.YtjlcmafeemdneaaAll
import Derived.Test.YtjlcmafeemdneaaFmt
import Derived.Test.YtjlcmafeemdneaaSFmt
import Derived.Test.YtjlcmafeemdneaaPlainFmts
import Derived.Test.YtjlcmafeemdneaaShelf
import Derived.Laws.OwnMore
import Derived.Maps.AppendAt
namespace Go.Proofs.Ytjlcmafeemdneaa
open Go.RowKit Go.PlainNum

/-- the text of a list of numbers -/
def fms (zs : List Int) : List UInt8 := if allNum zs = true then preT zs zs.length else []
theorem fms_yes {zs : List Int} (h : allNum zs = true) : fms zs = preT zs zs.length := if_pos h
theorem fms_no {zs : List Int} (h : allNum zs = false) : fms zs = [] := if_neg (by rw [h]; simp)
attribute [irreducible] fms

theorem sfmt_F (n : Int) (F : List UInt8) (hF : fmtL n = F) (w : World) :
    Calls Try.prog 54 #[.int .i64 n] w fun e w' => e = .returned (.string (S F)) ∧ Below w.heap.size w w' := by
  rw [← hF]
  exact sfmt_any n w
theorem fmt_F (n : Int) (F : List UInt8) (hF : fmtL n = F) (w : World) :
    Calls Try.prog 56 #[.int .i64 n] w fun e w' => e = .returned (.string (S F)) ∧ w = w' := by
  rw [← hF]
  exact fmt_any n w

/-- the texts of the first k -/
def strs (zs : List Int) (k : Nat) : List Value := (zs.take k).map fun z => Value.string (S (fmtL z))
theorem strs_succ (zs : List Int) (k : Nat) (hk : k < zs.length) : strs zs (k + 1) = strs zs k ++ [.string (S (fmtL (zs.getD k 0)))] := by
  unfold strs
  rw [List.take_succ_eq_append_getElem hk, List.map_append]
  congr 1
  simp [List.getElem?_eq_getElem hk]
theorem strs_zero (zs : List Int) : strs zs 0 = [] := by unfold strs; rfl
theorem strs_full (zs : List Int) : strs zs zs.length = (zs.map fun z => S (fmtL z)).map Value.string := by
  unfold strs
  rw [List.take_length, List.map_map]
  rfl
attribute [irreducible] strs
theorem infoString : (Try.prog.info? 9).map (fun i => (i.zero, i.size, i.bytes)) = some (some (.string ByteArray.empty), 1, 16) := by kernel_rfl
theorem own_form1 {w : World} {base n cap : Nat} {e : TypeId} {A : Option Addr} {xs : List Value} (h : w.ownsRow base e 1 (.slice A n cap) n xs) (hn : 0 < n) : ∃ g, A = some ⟨g, 0, none⟩ := by
  rcases h.2 with ⟨_, h0⟩ | ⟨g, cap', cur, hv, _⟩
  · omega
  · simp only [Value.slice.injEq] at hv; exact ⟨g, hv.1⟩
theorem own_le1 {w : World} {base n cap : Nat} {e : TypeId} {A : Option Addr} {xs : List Value} (h : w.ownsRow base e 1 (.slice A n cap) n xs) : n ≤ cap := by
  rcases h.2 with ⟨_, h0⟩ | ⟨g, cap', cur, hv, _, _, hr, _⟩
  · omega
  · simp only [Value.slice.injEq] at hv; omega
theorem own_val1 {w : World} {base n : Nat} {e : TypeId} {v : Value} {xs : List Value} (h : w.ownsRow base e 1 v n xs) : ∃ A cap, v = .slice A n cap := by
  rcases h.2 with ⟨hv, h0⟩ | ⟨g, cap', cur, hv, _⟩
  · exact ⟨none, 0, by rw [hv, h0]⟩
  · exact ⟨_, _, hv⟩

set_option maxRecDepth 100000 in
set_option maxHeartbeats 1000000 in
theorem sfms_any (A : Option Addr) (n c : Nat) (zs : List Int) (w : World) (h : Rd w w.heap.size A n zs) (hn : (n : Int) ≤ 2000000) :
    Calls Try.prog 30 #[.slice A n c] w fun e w' => e = .returned (.string (S (fms zs))) ∧ Below w.heap.size w w' := by
  have H := Lib.hid h
  clear h
  go_enter Try.func30, Try.ntmps30
  go_wp2_with fail
  go_loopw [3, 4] (fun s i wr => ∃ k : Nat, s = .string (S (preT zs k)) ∧ i = .int .i64 k ∧ k ≤ n ∧ Hid (∀ j, j < k → 0 ≤ zs.getD j 0 ∧ zs.getD j 0 < 1000000271) ∧ Below w.heap.size w wr) (fun _ i _ => n - (intOf i).toNat)
  case atStart => exact ⟨0, by rw [preT_zero]; rfl, rfl, Nat.zero_le _, Lib.hid (fun j hj => absurd hj (by omega)), Below.refl _ _⟩
  case round =>
    rename_i wr _
    obtain ⟨k, rfl, rfl, hk, E, B⟩ := hrel
    have hl := Lib.hid H.out.1
    by_cases hlt : k < n
    · obtain ⟨b, off, rfl, hb, hc⟩ := H.out.2 (by omega)
      have c1 := (B.cell (p := ⟨b, off + k, none⟩) hb).trans (hc k hlt)
      obtain ⟨x, hx⟩ : ∃ x, zs.getD k 0 = x := ⟨_, rfl⟩
      rw [hx] at c1
      have hx := Lib.hid hx
      clear hc
      by_cases hx1 : 0 ≤ x ∧ x < 1000000271
      · have D := Lib.hid (decide_eq_true hx1)
        have E' : Hid (∀ j, j < k + 1 → 0 ≤ zs.getD j 0 ∧ zs.getD j 0 < 1000000271) := Lib.hid (fun j hj => by
          rcases Nat.lt_or_ge j k with h1 | h1
          · exact E.out j h1
          · obtain rfl : j = k := by omega
            rw [hx.out]; exact hx1)
        clear hx1
        have hlen := preT_len zs k (by rw [hl.out]; omega)
        have hfl := fmtL_len x
        obtain ⟨L, hL⟩ : ∃ L, preT zs k = L := ⟨_, rfl⟩
        obtain ⟨F, hF⟩ : ∃ F, fmtL x = F := ⟨_, rfl⟩
        rw [hL] at hlen ⊢
        rw [hF] at hfl
        have hL := Lib.hid hL
        have hF := Lib.hid hF
        by_cases h0 : 0 < k
        · have t0 : decide ((k : Int) > 0) = true := decide_eq_true (by omega)
          have s1 := add_rit (P := Try.prog) wr L ⟨#[32]⟩ (by simp; omega)
          have s2 : ∀ v, (Op.stringOp .add (S (L ++ [32])) (S F)).run Try.prog v = .ok (.string (S (L ++ [32] ++ F))) v := fun v => add_S v (L ++ [32]) F (by simp; omega)
          have N := Lib.hid (show preT zs (k + 1) = L ++ [32] ++ F by rw [preT_succ zs k h0 (by rw [hl.out]; omega), hL.out, hx.out, hF.out])
          clear hlen hfl
          go_wp2_with (first | (go_at_call 53; refine (sisNum_eq _ _ D.out _).mono ?_; rintro e w' ⟨rfl, rfl⟩) | (go_at_call 54; refine (sfmt_F x F hF.out _).mono ?_; rintro e w2 ⟨rfl, B2⟩))
          have B3 := B.trans (B2.mono B.size)
          go_roundw
          case rel => exact ⟨k + 1, by rw [N.out]; try simp, by go_num, by omega, E', B3⟩
          case measure => simp [intOf]; omega
        · have t0 : decide (0 < k) = false := decide_eq_false (by omega)
          have k0 : Hid (k = 0) := Lib.hid (by omega)
          clear h0
          have s2 : ∀ v, (Op.stringOp .add (S L) (S F)).run Try.prog v = .ok (.string (S (L ++ F))) v := fun v => add_S v L F (by omega)
          have hL0 := hL.out
          have N := Lib.hid (show preT zs (k + 1) = L ++ F by rw [← hL0, k0.out, preT_zero, List.nil_append, preT_one zs (by rw [hl.out]; have := k0.out; omega), ← hF.out, ← hx.out, k0.out])
          clear hL0
          clear hlen hfl
          go_wp2_with (first | (go_at_call 53; refine (sisNum_eq _ _ D.out _).mono ?_; rintro e w' ⟨rfl, rfl⟩) | (go_at_call 54; refine (sfmt_F x F hF.out _).mono ?_; rintro e w2 ⟨rfl, B2⟩))
          have B3 := B.trans (B2.mono B.size)
          go_roundw
          case rel => exact ⟨k + 1, by rw [N.out]; try simp, by go_num, by omega, E', B3⟩
          case measure => simp [intOf]; omega
      · have D := Lib.hid (decide_eq_false hx1)
        have R := Lib.hid <| fms_no (allNum_no zs k (by rw [H.out.1]; exact hlt) (by rw [hx.out]; exact hx1))
        clear hx1
        go_wp2_with (go_at_call 53; refine (sisNum_eq _ _ D.out _).mono ?_; rintro e w' ⟨rfl, rfl⟩)
        go_ret
        exact ⟨by rw [R.out]; rfl, B⟩
    · obtain rfl : k = n := by omega
      have R := Lib.hid <| fms_yes (allNum_yes zs (fun j hj => E.out j (by rw [H.out.1] at hj; exact hj)))
      go_wp2_with fail
      go_ret
      exact ⟨by rw [R.out, hl.out]; rfl, B⟩

set_option maxRecDepth 100000 in
set_option maxHeartbeats 1000000 in
theorem fms_any (A : Option Addr) (n c : Nat) (zs : List Int) (w : World) (h : Rd w w.heap.size A n zs) (hn : (n : Int) ≤ 2000000) :
    Calls Try.prog 31 #[.slice A n c] w fun e w' => e = .returned (.string (S (fms zs))) ∧ Below w.heap.size w w' := by
  have H := Lib.hid h
  clear h
  go_enter Try.func31, Try.ntmps31
  go_wp2_with fail
  refine (allNumbers_any _ _ _ _ zs _ H.out (by omega)).mono ?_
  rintro e w' ⟨rfl, rfl⟩
  cases ha : allNum zs
  · have R := Lib.hid (fms_no ha)
    go_wp2_with fail
    go_ret
    exact ⟨by rw [R.out]; rfl, Below.refl _ _⟩
  · have R := Lib.hid (fms_yes ha)
    have hl := Lib.hid H.out.1
    obtain ⟨i0, hi, hz0, hz1, hz2⟩ := info_parts infoString
    go_wp2_with fail
    go_loopw [3, 12] (fun o i wr => ∃ k : Nat, i = .int .i64 k ∧ k ≤ n ∧ Hid (wr.ownsRow w.heap.size 9 1 o k (strs zs k)) ∧ Below w.heap.size w wr) (fun _ i _ => n - (intOf i).toNat)
    case atStart => exact ⟨0, rfl, Nat.zero_le _, Lib.hid (by rw [strs_zero]; exact World.ownsRow_lit w #[] 0 (Nat.le_refl _) (by unfold maxLen; omega) rfl), (Below.refl _ _).alloc (Nat.le_refl _) _⟩
    case round =>
      rename_i o wr _
      obtain ⟨k, rfl, hk, O, B⟩ := hrel
      obtain ⟨C, d, rfl⟩ := own_val1 O.out
      by_cases hlt : k < n
      · obtain ⟨b, off, rfl, hb, hc⟩ := H.out.2 (by omega)
        have c1 := (B.cell (p := ⟨b, off + k, none⟩) hb).trans (hc k hlt)
        obtain ⟨x, hx⟩ : ∃ x, zs.getD k 0 = x := ⟨_, rfl⟩
        rw [hx] at c1
        obtain ⟨F, hF⟩ : ∃ F, fmtL x = F := ⟨_, rfl⟩
        have hF := Lib.hid hF
        have N := Lib.hid (show strs zs k ++ [.string (S F)] = strs zs (k + 1) by rw [strs_succ zs k (by rw [hl.out]; exact hlt), hx, hF.out])
        clear hc hx
        go_wp2_with (first | (go_at_call 56; refine (fmt_F x F hF.out _).mono ?_; rintro e w' ⟨rfl, rfl⟩) | (at_builtin; refine wpList_append_own _ rfl _ _ 55 rfl w.heap.size 9 i0 (.string ByteArray.empty) 1 16 Try.underlying55 hi hz0 hz1 hz2 rfl (by decide) _ _ _ rfl (O.out.alloc _) ⟨wr.heap.size, 0, none⟩ 1 1 [.string (S F)] rfl rfl (cell_one_new _ _ _) (by intro u hu; simp at hu; subst hu; rfl) (by unfold maxLen; omega) (by omega) (by have := B.size; simp; omega) ?_))
        intro v9 w9 O9 G9 _
        rw [N.out] at O9
        have O9 := Lib.hid O9
        have B9 := (B.alloc B.size _).grown G9 (by have := B.size; simp; omega) (by intro g hg; have := O.out.lt g hg; omega)
        clear G9
        go_wp2_with fail
        go_roundw
        case rel => exact ⟨k + 1, by go_num, by omega, O9, B9⟩
        case measure => simp [intOf]; omega
      · obtain rfl : k = n := by omega
        have hj : Lib.join ((zs.map fun z => S (fmtL z)).map (·.data.toList)) [32] = fms zs := by
          rw [R.out, ← preT_full, List.map_map]
          exact congrArg (Lib.join · [32]) (List.map_congr_left fun z _ => (S_toList _).symm).symm
        have hln := preT_len zs zs.length (Nat.le_refl _)
        rw [← R.out] at hln
        have hj := Lib.hid hj
        rcases Nat.eq_zero_or_pos k with h0 | h0
        · subst h0
          have hz : fms zs = [] := List.eq_nil_of_length_eq_zero (by rw [hl.out] at hln; omega)
          have hz := Lib.hid hz
          go_wp2_with (go_at_call 57; refine (Try.strings_Join_none _ _ _ _).mono ?_; rintro e w' ⟨rfl, rfl⟩)
          go_ret
          exact ⟨by rw [hz.out]; rfl, B⟩
        · obtain ⟨g, rfl⟩ := own_form1 O.out h0
          have hcell : ∀ (j : Nat) y, (zs.map fun z => S (fmtL z))[j]? = some y → wr.cell? ⟨g, 0 + j, none⟩ = some (.string y) := fun j y hy => by
            have hj2 : j < k := by have := (List.getElem?_eq_some_iff.1 hy).1; simpa [hl.out] using this
            have q := O.out.cellAt j (by omega)
            rw [Nat.zero_add, q, ← hl.out, strs_full, List.getElem?_map, hy]
            rfl
          have hg := (O.out.lt g rfl).2
          have hdk := own_le1 O.out
          have cJ := Try.strings_Join g 0 d (zs.map fun z => S (fmtL z)) ⟨#[32]⟩ wr hcell hg (by simp [hl.out]; omega) (by simp [hl.out]; omega) (by show (Lib.join _ [32]).length ≤ _; rw [hj.out]; rw [hl.out] at hln; omega)
          rw [List.length_map, hl.out] at cJ
          have cJ := cJ.mono (R' := fun e w' => e = .returned (.string (S (fms zs))) ∧ Below wr.heap.size wr w') (fun e w' ⟨he, hb⟩ => ⟨he.trans ((congrArg (fun l : List UInt8 => Ending.returned (.string ⟨l.toArray⟩)) hj.out).trans (by rw [S_def (fms zs)])), hb⟩)
          have cJ := Lib.hid cJ
          clear hcell hln
          go_wp2_with (go_at_call 57; refine cJ.out.mono ?_; rintro e w5 ⟨rfl, B5⟩)
          go_ret
          exact ⟨rfl, B.trans (B5.mono B.size)⟩
end Go.Proofs.Ytjlcmafeemdneaa
