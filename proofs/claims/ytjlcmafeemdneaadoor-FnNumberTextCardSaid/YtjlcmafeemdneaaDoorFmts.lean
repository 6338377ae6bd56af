/- The contracts of FormatNumbers, of the program and of the reference. -/
import Derived.Test.YtjlcmafeemdneaaDoorAll
import Derived.Test.YtjlcmafeemdneaaDoorFmt
import Derived.Test.YtjlcmafeemdneaaDoorSFmt
import Derived.Test.YtjlcmafeemdneaaDoorPlainFmts
import Derived.Test.YtjlcmafeemdneaaDoorShelf
import Derived.Laws.OwnMore
import Derived.Maps.AppendAt
namespace Go.Proofs.YtjlcmafeemdneaaDoor
open Go.RowKit Go.PlainNum

/-- the text of a list of numbers -/
def fms (zs : List Int) : List UInt8 := if allNum zs = true then preT zs zs.length else []
theorem fms_yes {zs : List Int} (h : allNum zs = true) : fms zs = preT zs zs.length := if_pos h
theorem fms_no {zs : List Int} (h : allNum zs = false) : fms zs = [] := if_neg (by rw [h]; simp)
attribute [irreducible] fms

theorem sfmt_F (n : Int) (F : List UInt8) (hF : fmtL n = F) (w : World) :
    Calls Tryd.prog 21 #[.int .i64 n] w fun e w' => e = .returned (.string (S F)) ∧ Below w.heap.size w w' := by
  rw [← hF]
  exact sfmt_any n w
theorem fmt_F (n : Int) (F : List UInt8) (hF : fmtL n = F) (w : World) :
    Calls Tryd.prog 14 #[.int .i64 n] w fun e w' => e = .returned (.string (S F)) ∧ w = w' := by
  rw [← hF]
  exact fmt_any n w

/-- the texts of the first k -/
def strs (zs : List Int) (k : Nat) : List Value := (zs.take k).map fun z => Value.string (S (fmtL z))
theorem strs_succ (zs : List Int) (k : Nat) (hk : k < zs.length) : strs zs (k + 1) = strs zs k ++ [.string (S (fmtL (zs.getD k 0)))] := by
  unfold strs
  rw [List.take_succ_eq_append_getElem hk, List.map_append]
  congr 1
  simp [List.getElem?_eq_getElem hk]
theorem strs_zero (zs : List Int) : strs zs 0 = [] := by unfold strs; rfl
theorem strs_full (zs : List Int) : strs zs zs.length = (zs.map fun z => S (fmtL z)).map Value.string := by
  unfold strs
  rw [List.take_length, List.map_map]
  rfl
attribute [irreducible] strs
theorem infoString : (Tryd.prog.info? 9).map (fun i => (i.zero, i.size, i.bytes)) = some (some (.string ByteArray.empty), 1, 16) := by kernel_rfl
theorem own_form1 {w : World} {base n cap : Nat} {e : TypeId} {A : Option Addr} {xs : List Value} (h : w.ownsRow base e 1 (.slice A n cap) n xs) (hn : 0 < n) : ∃ g, A = some ⟨g, 0, none⟩ := by
  rcases h.2 with ⟨_, h0⟩ | ⟨g, cap', cur, hv, _⟩
  · omega
  · simp only [Value.slice.injEq] at hv; exact ⟨g, hv.1⟩
theorem own_le1 {w : World} {base n cap : Nat} {e : TypeId} {A : Option Addr} {xs : List Value} (h : w.ownsRow base e 1 (.slice A n cap) n xs) : n ≤ cap := by
  rcases h.2 with ⟨_, h0⟩ | ⟨g, cap', cur, hv, _, _, hr, _⟩
  · omega
  · simp only [Value.slice.injEq] at hv; omega
theorem own_val1 {w : World} {base n : Nat} {e : TypeId} {v : Value} {xs : List Value} (h : w.ownsRow base e 1 v n xs) : ∃ A cap, v = .slice A n cap := by
  rcases h.2 with ⟨hv, h0⟩ | ⟨g, cap', cur, hv, _⟩
  · exact ⟨none, 0, by rw [hv, h0]⟩
  · exact ⟨_, _, hv⟩

set_option maxRecDepth 100000 in
set_option maxHeartbeats 1000000 in
theorem fms_any (A : Option Addr) (n c : Nat) (zs : List Int) (w : World) (h : Rd w w.heap.size A n zs) (hn : (n : Int) ≤ 2000000) :
    Calls Tryd.prog 15 #[.slice A n c] w fun e w' => e = .returned (.string (S (fms zs))) ∧ Below w.heap.size w w' := by
  have H := Lib.hid h
  clear h
  go_enter Tryd.func15, Tryd.ntmps15
  go_wp2_with fail
  refine (allNumbers_any _ _ _ _ zs _ H.out (by omega)).mono ?_
  rintro e w' ⟨rfl, rfl⟩
  cases ha : allNum zs
  · have R := Lib.hid (fms_no ha)
    go_wp2_with fail
    go_ret
    exact ⟨by rw [R.out]; rfl, Below.refl _ _⟩
  · have R := Lib.hid (fms_yes ha)
    have hl := Lib.hid H.out.1
    obtain ⟨i0, hi, hz0, hz1, hz2⟩ := info_parts infoString
    go_wp2_with fail
    go_loopw [3, 12] (fun o i wr => ∃ k : Nat, i = .int .i64 k ∧ k ≤ n ∧ Hid (wr.ownsRow w.heap.size 9 1 o k (strs zs k)) ∧ Below w.heap.size w wr) (fun _ i _ => n - (intOf i).toNat)
    case atStart => exact ⟨0, rfl, Nat.zero_le _, Lib.hid (by rw [strs_zero]; exact World.ownsRow_lit w #[] 0 (Nat.le_refl _) (by unfold maxLen; omega) rfl), (Below.refl _ _).alloc (Nat.le_refl _) _⟩
    case round =>
      rename_i o wr _
      obtain ⟨k, rfl, hk, O, B⟩ := hrel
      obtain ⟨C, d, rfl⟩ := own_val1 O.out
      by_cases hlt : k < n
      · obtain ⟨b, off, rfl, hb, hc⟩ := H.out.2 (by omega)
        have c1 := (B.cell (p := ⟨b, off + k, none⟩) hb).trans (hc k hlt)
        obtain ⟨x, hx⟩ : ∃ x, zs.getD k 0 = x := ⟨_, rfl⟩
        rw [hx] at c1
        obtain ⟨F, hF⟩ : ∃ F, fmtL x = F := ⟨_, rfl⟩
        have hF := Lib.hid hF
        have N := Lib.hid (show strs zs k ++ [.string (S F)] = strs zs (k + 1) by rw [strs_succ zs k (by rw [hl.out]; exact hlt), hx, hF.out])
        clear hc hx
        go_wp2_with (first | (go_at_call 14; refine (fmt_F x F hF.out _).mono ?_; rintro e w' ⟨rfl, rfl⟩) | (at_builtin; refine wpList_append_own _ rfl _ _ 39 rfl w.heap.size 9 i0 (.string ByteArray.empty) 1 16 Tryd.underlying39 hi hz0 hz1 hz2 rfl (by decide) _ _ _ rfl (O.out.alloc _) ⟨wr.heap.size, 0, none⟩ 1 1 [.string (S F)] rfl rfl (cell_one_new _ _ _) (by intro u hu; simp at hu; subst hu; rfl) (by unfold maxLen; omega) (by omega) (by have := B.size; simp; omega) ?_))
        intro v9 w9 O9 G9 _
        rw [N.out] at O9
        have O9 := Lib.hid O9
        have B9 := (B.alloc B.size _).grown G9 (by have := B.size; simp; omega) (by intro g hg; have := O.out.lt g hg; omega)
        clear G9
        go_wp2_with fail
        go_roundw
        case rel => exact ⟨k + 1, by go_num, by omega, O9, B9⟩
        case measure => simp [intOf]; omega
      · obtain rfl : k = n := by omega
        have hj : Lib.join ((zs.map fun z => S (fmtL z)).map (·.data.toList)) [32] = fms zs := by
          rw [R.out, ← preT_full, List.map_map]
          exact congrArg (Lib.join · [32]) (List.map_congr_left fun z _ => (S_toList _).symm).symm
        have hln := preT_len zs zs.length (Nat.le_refl _)
        rw [← R.out] at hln
        have hj := Lib.hid hj
        rcases Nat.eq_zero_or_pos k with h0 | h0
        · subst h0
          have hz : fms zs = [] := List.eq_nil_of_length_eq_zero (by rw [hl.out] at hln; omega)
          have hz := Lib.hid hz
          go_wp2_with (go_at_call 35; refine (Tryd.strings_Join_none _ _ _ _).mono ?_; rintro e w' ⟨rfl, rfl⟩)
          go_ret
          exact ⟨by rw [hz.out]; rfl, B⟩
        · obtain ⟨g, rfl⟩ := own_form1 O.out h0
          have hcell : ∀ (j : Nat) y, (zs.map fun z => S (fmtL z))[j]? = some y → wr.cell? ⟨g, 0 + j, none⟩ = some (.string y) := fun j y hy => by
            have hj2 : j < k := by have := (List.getElem?_eq_some_iff.1 hy).1; simpa [hl.out] using this
            have q := O.out.cellAt j (by omega)
            rw [Nat.zero_add, q, ← hl.out, strs_full, List.getElem?_map, hy]
            rfl
          have hg := (O.out.lt g rfl).2
          have hdk := own_le1 O.out
          have cJ := Tryd.strings_Join g 0 d (zs.map fun z => S (fmtL z)) ⟨#[32]⟩ wr hcell hg (by simp [hl.out]; omega) (by simp [hl.out]; omega) (by show (Lib.join _ [32]).length ≤ _; rw [hj.out]; rw [hl.out] at hln; omega)
          rw [List.length_map, hl.out] at cJ
          have cJ := cJ.mono (R' := fun e w' => e = .returned (.string (S (fms zs))) ∧ Below wr.heap.size wr w') (fun e w' ⟨he, hb⟩ => ⟨he.trans ((congrArg (fun l : List UInt8 => Ending.returned (.string ⟨l.toArray⟩)) hj.out).trans (by rw [S_def (fms zs)])), hb⟩)
          have cJ := Lib.hid cJ
          clear hcell hln
          go_wp2_with (go_at_call 35; refine cJ.out.mono ?_; rintro e w5 ⟨rfl, B5⟩)
          go_ret
          exact ⟨rfl, B.trans (B5.mono B.size)⟩
end Go.Proofs.YtjlcmafeemdneaaDoor
