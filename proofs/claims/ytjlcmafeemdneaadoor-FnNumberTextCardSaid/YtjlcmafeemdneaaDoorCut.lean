/- The contract of the reference's function that cuts a text at each place where a sign stands. -/
import Derived.Test.YtjlcmafeemdneaaDoorFmts
import Derived.Test.YtjlcmafeemdneaaDoorParse
import Derived.Test.YtjlcmafeemdneaaDoorPlainRead
namespace Go.Proofs.YtjlcmafeemdneaaDoor
open Go.RowKit Go.PlainNum

theorem keepC {w w' : World} {p : Addr} {v : Value} (hb : Below w.heap.size w w') (h : w.cell? p = some v) : w'.cell? p = some v := (hb.cell (World.block_lt_of_cell? _ _ h)).trans h

/-- texts as values -/
def vals (ls : List (List UInt8)) : List Value := ls.map fun l => Value.string (S l)
theorem vals_snoc (ls : List (List UInt8)) (l : List UInt8) : vals ls ++ [.string (S l)] = vals (ls ++ [l]) := by simp [vals]
theorem ext_S (s : ByteArray) (f i : Nat) : s.extract f i = S ((s.data.toList.take i).drop f) := by
  rw [Lib.extract_eq, S_def, List.drop_take]

set_option maxRecDepth 100000 in
set_option maxHeartbeats 1000000 in
theorem l1Cut_any (s : ByteArray) (c : UInt8) (ci : Int) (hci : ci = (c.toNat : Int)) (w : World) (hs : s.size ≤ 2000000) :
    Calls Tryd.prog 22 #[.string s, .int .u8 ci] w fun e w' => ∃ v, e = .returned v ∧ w'.ownsRow w.heap.size 9 1 v (sp c s.data.toList).length (vals (sp c s.data.toList)) ∧ Below w.heap.size w w' := by
  obtain ⟨i0, hi, hz0, hz1, hz2⟩ := info_parts infoString
  obtain ⟨n, hn⟩ : ∃ n, s.size = n := ⟨_, rfl⟩
  rw [hn] at hs
  have hl : s.data.toList.length = n := by rw [← hn]; exact Array.length_toList
  have hl := Lib.hid hl
  replace hci := Lib.hid hci
  go_enter Tryd.func22, Tryd.ntmps22
  go_wp2_with fail
  go_loopw [5, 6, 7] (fun v fv iv wr => ∃ f k : Nat, ∃ ls : List (List UInt8), fv = .int .i64 f ∧ iv = .int .i64 k ∧ f ≤ k ∧ k ≤ n ∧ ls.length ≤ k ∧ Hid (wr.ownsRow w.heap.size 9 1 v ls.length (vals ls)) ∧ Below w.heap.size w wr ∧ Hid (sp c s.data.toList = ls ++ onto ((s.data.toList.take k).drop f) (sp c (s.data.toList.drop k))))
    (fun _ _ iv _ => n - (intOf iv).toNat)
  case atStart => exact ⟨0, 0, [], rfl, rfl, by omega, by omega, by simp, Lib.hid (World.ownsRow_lit w #[] 0 (Nat.le_refl _) (by unfold maxLen; omega) rfl), (Below.refl _ _).alloc (Nat.le_refl _) _, Lib.hid (by simp [onto_nil])⟩
  case round =>
    rename_i o wr _
    obtain ⟨f, k, ls, rfl, rfl, hfk, hk, hlk, O, B, E⟩ := hrel
    obtain ⟨C, d, rfl⟩ := own_val1 O.out
    have hbs := B.size
    by_cases hlt : k < n
    · obtain ⟨x, hx⟩ : ∃ x : UInt8, s[k]'(by omega) = x := ⟨_, rfl⟩
      have hd : s.data.toList.drop k = x :: s.data.toList.drop (k + 1) := by
        rw [List.drop_eq_getElem_cons (by rw [hl.out]; omega), ← hx]
        rfl
      obtain ⟨xi, hxi⟩ : ∃ xi : Int, ((s[k]'(by omega)).toNat : Int) = xi := ⟨_, rfl⟩
      have hxx : (x.toNat : Int) = xi := by rw [← hx]; exact hxi
      clear hx
      by_cases hc : x = c
      · have t0 : (xi == ci) = true := by rw [beq_iff_eq, ← hxx, hci.out, hc]
        have t1 : xi = ci := by rw [← hxx, hci.out, hc]
        have E' := E.out
        rw [hd, hc, sp_hit] at E'
        have N := Lib.hid (show vals ls ++ [.string (s.extract f k)] = vals (ls ++ [(s.data.toList.take k).drop f]) by rw [ext_S, vals_snoc])
        have E' := Lib.hid E'
        have t2 : ((f : Int) ≤ k) := by omega
        clear E hd hxx
        go_wp2_with (at_builtin; refine wpList_append_own _ rfl _ _ 39 rfl w.heap.size 9 i0 (.string ByteArray.empty) 1 16 Tryd.underlying39 hi hz0 hz1 hz2 rfl (by decide) _ _ _ rfl (O.out.alloc _) ⟨wr.heap.size, 0, none⟩ 1 1 [.string (s.extract f k)] rfl rfl (cell_one_new _ _ _) (by intro u hu; simp at hu; subst hu; rfl) (by unfold maxLen; omega) (by omega) (by have := B.size; simp; omega) ?_)
        intro v9 w9 O9 G9 _
        rw [N.out] at O9
        have O9 := Lib.hid O9
        have B9 := (B.alloc hbs _).grown G9 (by simp; omega) (by intro g hg; have := O.out.lt g hg; omega)
        clear G9
        go_wp2_with fail
        go_roundw
        case rel => exact ⟨k + 1, k + 1, ls ++ [(s.data.toList.take k).drop f], by go_num, by go_num, by omega, by omega, by simp; omega, by simpa using O9, B9, Lib.hid (by rw [E'.out]; simp)⟩
        case measure => simp [intOf]; omega
      · have t0 : (xi == ci) = false := by
          rw [beq_eq_false_iff_ne, ← hxx, hci.out]
          intro q
          exact hc (UInt8.toNat_inj.1 (by omega))
        have t1 : ¬ xi = ci := by rw [beq_eq_false_iff_ne] at t0; exact t0
        have E' := E.out
        rw [hd, sp_miss c x _ _ hc] at E'
        have hsn : (s.data.toList.take k).drop f ++ [x] = (s.data.toList.take (k + 1)).drop f := by
          have h1 : s.data.toList.take (k + 1) = s.data.toList.take k ++ [x] := by
            rw [List.take_succ_eq_append_getElem (by rw [hl.out]; omega)]
            have h2 := congrArg (fun l => l[0]?) hd
            simp only [List.getElem?_drop, List.getElem?_cons_zero] at h2
            rw [Nat.add_zero] at h2
            obtain ⟨_, h3⟩ := List.getElem?_eq_some_iff.1 h2
            rw [h3]
          rw [h1, List.drop_append_of_le_length (by rw [List.length_take, hl.out]; omega)]
        rw [hsn] at E'
        have E' := Lib.hid E'
        clear E hd hxx hsn
        go_wp2_with fail
        go_roundw
        case rel => exact ⟨f, k + 1, ls, rfl, by go_num, by omega, by omega, by omega, O, B, E'⟩
        case measure => simp [intOf]; omega
    · obtain rfl : k = n := by omega
      have E' := E.out
      rw [show s.data.toList.drop k = [] from List.drop_of_length_le (by rw [hl.out]; omega), sp_end] at E'
      have N := Lib.hid (show vals ls ++ [.string (s.extract f k)] = vals (sp c s.data.toList) by rw [ext_S, vals_snoc, E'])
      have L := Lib.hid (show ls.length + 1 = (sp c s.data.toList).length by rw [E']; simp)
      clear E E'
      go_wp2_with (at_builtin; refine wpList_append_own _ rfl _ _ 39 rfl w.heap.size 9 i0 (.string ByteArray.empty) 1 16 Tryd.underlying39 hi hz0 hz1 hz2 rfl (by decide) _ _ _ rfl (O.out.alloc _) ⟨wr.heap.size, 0, none⟩ 1 1 [.string (s.extract f k)] rfl rfl (cell_one_new _ _ _) (by intro u hu; simp at hu; subst hu; rfl) (by unfold maxLen; omega) (by omega) (by have := B.size; simp; omega) ?_)
      intro v9 w9 O9 G9 _
      rw [N.out, L.out] at O9
      have B9 := (B.alloc hbs _).grown G9 (by simp; omega) (by intro g hg; have := O.out.lt g hg; omega)
      clear G9
      go_wp2_with fail
      go_ret
      exact ⟨v9, rfl, O9, B9⟩
end Go.Proofs.YtjlcmafeemdneaaDoor
