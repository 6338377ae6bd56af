/- The contract of ParseNumber of the reference. -/
import Derived.Test.YtjlcmafeemdneaaDoorCut
namespace Go.Proofs.YtjlcmafeemdneaaDoor
open Go.RowKit Go.PlainNum

theorem nonempty_bytes {s : ByteArray} (h : 0 < s.size) : s.toList.isEmpty = false := by
  rw [← decide_eq_emptyBytes s]
  exact decide_eq_false (fun e => by subst e; exact absurd h (by decide))
theorem ext_drop (s : ByteArray) : (s.extract 1 s.size).data.toList = s.data.toList.drop 1 := by
  rw [ext_S, S_toList, List.take_of_length_le (by rw [Array.length_toList]; exact Nat.le_refl _)]
theorem head_at (s : ByteArray) (h : 0 < s.size) : s.data.toList[0]? = some (s[0]'h) := by
  rw [List.getElem?_eq_getElem (by rw [Array.length_toList]; exact h)]
  rfl
theorem S_data (s : ByteArray) : S s.data.toList = s := (S_of s).symm

/-- a number's text, known to be s -/
theorem sfmt_is (n : Int) (s : ByteArray) (h : fmtL n = s.data.toList) (w : World) :
    Calls Tryd.prog 21 #[.int .i64 n] w fun e w' => e = .returned (.string s) ∧ Below w.heap.size w w' :=
  (sfmt_any n w).mono fun e w' ⟨he, hb⟩ => ⟨by rw [he, h, S_data], hb⟩
/-- a number's text, known not to be s -/
theorem sfmt_not (n : Int) (s : ByteArray) (h : ¬ fmtL n = s.data.toList) (w : World) :
    Calls Tryd.prog 21 #[.int .i64 n] w fun e w' => ∃ x : ByteArray, e = .returned (.string x) ∧ (x.toList == s.toList) = false ∧ Below w.heap.size w w' :=
  (sfmt_any n w).mono fun e w' ⟨he, hb⟩ => ⟨_, he, by rw [ByteArray.toList_eq, ByteArray.toList_eq, beq_eq_false_iff_ne, S_toList]; exact h, hb⟩

theorem digs_is (s : ByteArray) (a : Int) (h : digs s.data.toList = a) (w : World) :
    Calls Tryd.prog 38 #[.string s] w fun e w' => e = .returned (.int .i64 a) ∧ w = w' := by
  rw [← h]
  exact l1Digits_any s w
theorem sfr_is (x a b n : Int) (hx : Value.int .i64 x = .int .i64 a) (h : fr a b = n) (w : World) :
    Calls Tryd.prog 39 #[.int .i64 x, .int .i64 b] w fun e w' => e = .returned (.int .i64 n) ∧ w = w' := by
  obtain rfl : x = a := by simpa using hx
  rw [← h, fr_def]
  exact sfraction_any x b w

/-- the last step of the reference: what is read must be written so -/
theorem fin_case (l : List UInt8) (n : Int) : (fmtL n = l ∧ fin l n = (n, true)) ∨ (¬ fmtL n = l ∧ fin l n = (0, false)) := by
  by_cases h : fmtL n = l
  · exact Or.inl ⟨h, fin_yes h⟩
  · exact Or.inr ⟨h, fin_no h⟩

set_option maxRecDepth 100000 in
set_option maxHeartbeats 3000000 in
theorem sparse_any (s : ByteArray) (w : World) (hs : s.size ≤ 2000000) :
    Calls Tryd.prog 17 #[.string s] w fun e w' => e = .returned (.tuple #[.int .i64 (psr s.data.toList).1, .bool (psr s.data.toList).2]) ∧ Below w.heap.size w w' := by
  by_cases hz : s.size = 0
  · have he : s = ByteArray.empty := ByteArray.size_eq_zero_iff.1 hz
    subst he
    have R := Lib.hid psr_nil
    go_enter Tryd.func17, Tryd.ntmps17
    go_wp2_with fail
    go_ret2
    exact ⟨by rw [show (ByteArray.empty).data.toList = [] from rfl, R.out]; rfl, Below.refl _ _⟩
  · have h0 : 0 < s.size := by omega
    have e0 := nonempty_bytes h0
    have hh := head_at s h0
    obtain ⟨d, hd⟩ : ∃ d : Int, ((s[0]'h0).toNat : Int) = d := ⟨_, rfl⟩
    by_cases h35 : d = 35
    · have t0 : (d == 35) = true := by rw [beq_iff_eq]; exact h35
      have hx : s.data.toList[0]? = some 35 := by rw [hh]; congr 1; apply UInt8.toNat_inj.1; have e : (35 : UInt8).toNat = 35 := rfl; omega
      have cd := l1Digits_any (s.extract 1 s.size) w
      rw [ext_drop] at cd
      obtain ⟨n, hn⟩ : ∃ n, digs (s.data.toList.drop 1) = n := ⟨_, rfl⟩
      have R := psr_hash hx
      rw [hn] at R cd
      have cd := Lib.hid cd
      clear hh hx hz
      rcases fin_case s.data.toList n with ⟨h1, h2⟩ | ⟨h1, h2⟩
      · rw [h2] at R
        rw [R]
        have h1 := Lib.hid h1
        clear R h2
        go_enter Tryd.func17, Tryd.ntmps17
        go_wp2_with (first | (go_at_call 38; refine cd.out.mono ?_; rintro e w' ⟨rfl, rfl⟩) | (go_at_call 21; refine (sfmt_is n s h1.out _).mono ?_; rintro e w2 ⟨rfl, B2⟩))
        go_ret2
        exact ⟨rfl, B2⟩
      · rw [h2] at R
        rw [R]
        have h1 := Lib.hid h1
        clear R h2
        go_enter Tryd.func17, Tryd.ntmps17
        go_wp2_with (first | (go_at_call 38; refine cd.out.mono ?_; rintro e w' ⟨rfl, rfl⟩) | (go_at_call 21; refine (sfmt_not n s h1.out _).mono ?_; rintro e w2 ⟨x, rfl, hxs, B2⟩))
        go_ret2
        exact ⟨rfl, B2⟩
    · have t0 : (d == 35) = false := by rw [beq_eq_false_iff_ne]; exact h35
      have h35l : s.data.toList[0]? ≠ some 35 := by
        rw [hh]; intro q; apply h35; rw [← hd, Option.some.inj q]; rfl
      have hne0 : s.data.toList ≠ [] := by intro q; rw [q] at hh; simp at hh
      clear hz
      by_cases h45 : d = 45
      · have t9 : (d == 45) = true := by rw [beq_iff_eq]; exact h45
        have h45l : s.data.toList[0]? = some 45 := by rw [hh]; congr 1; apply UInt8.toNat_inj.1; have e : (45 : UInt8).toNat = 45 := rfl; omega
        clear h45
        obtain ⟨t, htt⟩ : ∃ t, t = s.extract 1 s.size := ⟨_, rfl⟩
        have htd : t.data.toList = tl s.data.toList := by
          rw [htt]; unfold tl
          rw [if_pos h45l, ext_drop]
        have hts : t.size ≤ 2000000 := by
          rw [htt]; rw [Lib.size_eq, ext_drop, List.length_drop, Array.length_toList]; have e : s.data.size = s.size := rfl; omega
        have hsg : (if s.data.toList[0]? = some 45 then (-1 : Int) else 1) = -1 := if_pos h45l
        have cc := l1Cut_any t 47 47 rfl w hts
        have hne := sp_ne 47 t.data.toList
        obtain ⟨ps, hps⟩ : ∃ ps, sp 47 t.data.toList = ps := ⟨_, rfl⟩
        rw [hps] at cc hne
        rw [htd] at hps
        rw [htt] at cc
        have eA : pA s.data.toList = digs (ps.getD 0 []) := by unfold pA; rw [hps]
        have eB : pB s.data.toList = if 1 < ps.length then digs (ps.getD 1 []) else 1 := by unfold pB; rw [hps]
        have good := fun ha hb hc => psr_good hne0 h35l ha hb hc (-1) hsg
        have bad := fun h => psr_bad hne0 h35l h
        rw [hps] at bad good
        clear hps htd hts htt hsg hh hne0 h35l h45l
        obtain ⟨p0, r0, rfl⟩ : ∃ p0 r0, ps = p0 :: r0 := by cases ps with | nil => exact absurd rfl hne | cons a b => exact ⟨a, b, rfl⟩
        obtain ⟨a, ha⟩ : ∃ a, digs p0 = a := ⟨_, rfl⟩
        have eA : pA s.data.toList = a := by rw [eA]; exact ha
        have hA : Hid (digs (S p0).data.toList = a) := Lib.hid (by rw [S_toList]; exact ha)
        have aLo := digs_lo p0
        have aHi := digs_hi p0
        rw [ha] at aLo aHi
        rw [eA] at good bad
        have hc0 := Lib.hid (show (vals (p0 :: r0))[0]? = some (.string (S p0)) from rfl)
        clear hne ha eA
        by_cases hr : r0 = []
        · subst hr
          have eB : pB s.data.toList = 1 := eB
          rw [eB] at good bad
          have hpos : 0 < ([p0] : List (List UInt8)).length := by simp
          have cc := Lib.hid cc
          clear eB
          by_cases ha : a < 0
          · have R := bad (Or.inl ha)
            have t1 : decide (a < 0) = true := decide_eq_true ha
            clear good bad
            rw [R]
            clear R
            go_enter Tryd.func17, Tryd.ntmps17
            go_wp2_with (first | (go_at_call 22; refine cc.out.mono ?_; rintro e w1 ⟨v1, rfl, O1, B1⟩; obtain ⟨C1, k1, rfl⟩ := own_val1 O1; obtain ⟨g1, rfl⟩ := own_form1 O1 hpos; have z0 := O1.cellAt 0 (by omega); rw [hc0.out] at z0; skip; clear O1) | (go_at_call 38; with_reducible refine (digs_is (S p0) a hA.out _).mono ?_; rintro e w' ⟨rfl, rfl⟩))
            go_ret2
            exact ⟨rfl, B1⟩
          · have t1 : decide (a < 0) = false := decide_eq_false ha
            have R := good (by omega) (by omega) (by simp)
            obtain ⟨n, hn⟩ : ∃ n, fr (-1 * a) 1 = n := ⟨_, rfl⟩
            rw [hn] at R
            have hN := Lib.hid hn
            clear good bad hn
            rcases fin_case s.data.toList n with ⟨h1, h2⟩ | ⟨h1, h2⟩
            · rw [h2] at R
              rw [R]
              have h1 := Lib.hid h1
              clear R h2
              go_enter Tryd.func17, Tryd.ntmps17
              go_wp2_with (first | (go_at_call 22; refine cc.out.mono ?_; rintro e w1 ⟨v1, rfl, O1, B1⟩; obtain ⟨C1, k1, rfl⟩ := own_val1 O1; obtain ⟨g1, rfl⟩ := own_form1 O1 hpos; have z0 := O1.cellAt 0 (by omega); rw [hc0.out] at z0; skip; clear O1) | (go_at_call 38; with_reducible refine (digs_is (S p0) a hA.out _).mono ?_; rintro e w' ⟨rfl, rfl⟩) | (go_at_call 39; refine (sfr_is _ _ _ _ (by go_num) hN.out _).mono ?_; rintro e w' ⟨rfl, rfl⟩) | (go_at_call 21; refine (sfmt_is n s h1.out _).mono ?_; rintro e w2 ⟨rfl, B2⟩))
              go_ret2
              exact ⟨rfl, B1.trans (B2.mono B1.size)⟩
            · rw [h2] at R
              rw [R]
              have h1 := Lib.hid h1
              clear R h2
              go_enter Tryd.func17, Tryd.ntmps17
              go_wp2_with (first | (go_at_call 22; refine cc.out.mono ?_; rintro e w1 ⟨v1, rfl, O1, B1⟩; obtain ⟨C1, k1, rfl⟩ := own_val1 O1; obtain ⟨g1, rfl⟩ := own_form1 O1 hpos; have z0 := O1.cellAt 0 (by omega); rw [hc0.out] at z0; skip; clear O1) | (go_at_call 38; with_reducible refine (digs_is (S p0) a hA.out _).mono ?_; rintro e w' ⟨rfl, rfl⟩) | (go_at_call 39; refine (sfr_is _ _ _ _ (by go_num) hN.out _).mono ?_; rintro e w' ⟨rfl, rfl⟩) | (go_at_call 21; refine (sfmt_not n s h1.out _).mono ?_; rintro e w2 ⟨x, rfl, hxs, B2⟩))
              go_ret2
              exact ⟨rfl, B1.trans (B2.mono B1.size)⟩
        · obtain ⟨p1, r1, rfl⟩ : ∃ p1 r1, r0 = p1 :: r1 := by cases r0 with | nil => exact absurd rfl hr | cons a b => exact ⟨a, b, rfl⟩
          obtain ⟨b, hb⟩ : ∃ b, digs p1 = b := ⟨_, rfl⟩
          have eB : pB s.data.toList = b := by rw [eB, if_pos (by simp)]; exact hb
          have hB : Hid (digs (S p1).data.toList = b) := Lib.hid (by rw [S_toList]; exact hb)
          have bLo := digs_lo p1
          have bHi := digs_hi p1
          rw [hb] at bLo bHi
          rw [eB] at good bad
          have hc1 := Lib.hid (show (vals (p0 :: p1 :: r1))[1]? = some (.string (S p1)) from rfl)
          have hpos : 1 < (p0 :: p1 :: r1).length := by simp
          obtain ⟨m, hm⟩ : ∃ m, (p0 :: p1 :: r1).length = m := ⟨_, rfl⟩
          rw [hm] at cc good bad hpos
          have hpos0 : 0 < m := by omega
          have cc := Lib.hid cc
          clear eB hb hr
          by_cases ha : a < 0
          · have R := bad (Or.inl ha)
            have t1 : decide (a < 0) = true := decide_eq_true ha
            clear good bad
            rw [R]
            clear R
            go_enter Tryd.func17, Tryd.ntmps17
            go_wp2_with (first | (go_at_call 22; refine cc.out.mono ?_; rintro e w1 ⟨v1, rfl, O1, B1⟩; obtain ⟨C1, k1, rfl⟩ := own_val1 O1; obtain ⟨g1, rfl⟩ := own_form1 O1 hpos0; have z0 := O1.cellAt 0 (by omega); rw [hc0.out] at z0; have z1 := O1.cellAt 1 (by omega); rw [hc1.out] at z1; clear O1) | (go_at_call 38; with_reducible refine (digs_is (S p0) a hA.out _).mono ?_; rintro e w' ⟨rfl, rfl⟩) | (go_at_call 38; with_reducible refine (digs_is (S p1) b hB.out _).mono ?_; rintro e w' ⟨rfl, rfl⟩))
            go_ret2
            exact ⟨rfl, B1⟩
          · have t1 : decide (a < 0) = false := decide_eq_false ha
            by_cases hb : b < 0
            · have R := bad (Or.inr (Or.inl hb))
              have t2 : decide (b < 0) = true := decide_eq_true hb
              clear good bad
              rw [R]
              clear R
              go_enter Tryd.func17, Tryd.ntmps17
              go_wp2_with (first | (go_at_call 22; refine cc.out.mono ?_; rintro e w1 ⟨v1, rfl, O1, B1⟩; obtain ⟨C1, k1, rfl⟩ := own_val1 O1; obtain ⟨g1, rfl⟩ := own_form1 O1 hpos0; have z0 := O1.cellAt 0 (by omega); rw [hc0.out] at z0; have z1 := O1.cellAt 1 (by omega); rw [hc1.out] at z1; clear O1) | (go_at_call 38; with_reducible refine (digs_is (S p0) a hA.out _).mono ?_; rintro e w' ⟨rfl, rfl⟩) | (go_at_call 38; with_reducible refine (digs_is (S p1) b hB.out _).mono ?_; rintro e w' ⟨rfl, rfl⟩))
              go_ret2
              exact ⟨rfl, B1⟩
            · have t2 : decide (b < 0) = false := decide_eq_false hb
              by_cases hm2 : 2 < m
              · have R := bad (Or.inr (Or.inr hm2))
                have t3 : decide ((m : Int) > 2) = true := decide_eq_true (by omega)
                clear good bad
                rw [R]
                clear R
                go_enter Tryd.func17, Tryd.ntmps17
                go_wp2_with (first | (go_at_call 22; refine cc.out.mono ?_; rintro e w1 ⟨v1, rfl, O1, B1⟩; obtain ⟨C1, k1, rfl⟩ := own_val1 O1; obtain ⟨g1, rfl⟩ := own_form1 O1 hpos0; have z0 := O1.cellAt 0 (by omega); rw [hc0.out] at z0; have z1 := O1.cellAt 1 (by omega); rw [hc1.out] at z1; clear O1) | (go_at_call 38; with_reducible refine (digs_is (S p0) a hA.out _).mono ?_; rintro e w' ⟨rfl, rfl⟩) | (go_at_call 38; with_reducible refine (digs_is (S p1) b hB.out _).mono ?_; rintro e w' ⟨rfl, rfl⟩))
                go_ret2
                exact ⟨rfl, B1⟩
              · have t3 : decide ((m : Int) > 2) = false := decide_eq_false (by omega)
                have R := good (by omega) (by omega) (by omega)
                obtain ⟨n, hn⟩ : ∃ n, fr (-1 * a) b = n := ⟨_, rfl⟩
                rw [hn] at R
                have hN := Lib.hid hn
                clear good bad hn
                rcases fin_case s.data.toList n with ⟨h1, h2⟩ | ⟨h1, h2⟩
                · rw [h2] at R
                  rw [R]
                  have h1 := Lib.hid h1
                  clear R h2
                  go_enter Tryd.func17, Tryd.ntmps17
                  go_wp2_with (first | (go_at_call 22; refine cc.out.mono ?_; rintro e w1 ⟨v1, rfl, O1, B1⟩; obtain ⟨C1, k1, rfl⟩ := own_val1 O1; obtain ⟨g1, rfl⟩ := own_form1 O1 hpos0; have z0 := O1.cellAt 0 (by omega); rw [hc0.out] at z0; have z1 := O1.cellAt 1 (by omega); rw [hc1.out] at z1; clear O1) | (go_at_call 38; with_reducible refine (digs_is (S p0) a hA.out _).mono ?_; rintro e w' ⟨rfl, rfl⟩) | (go_at_call 38; with_reducible refine (digs_is (S p1) b hB.out _).mono ?_; rintro e w' ⟨rfl, rfl⟩) | (go_at_call 39; refine (sfr_is _ _ _ _ (by go_num) hN.out _).mono ?_; rintro e w' ⟨rfl, rfl⟩) | (go_at_call 21; refine (sfmt_is n s h1.out _).mono ?_; rintro e w2 ⟨rfl, B2⟩))
                  go_ret2
                  exact ⟨rfl, B1.trans (B2.mono B1.size)⟩
                · rw [h2] at R
                  rw [R]
                  have h1 := Lib.hid h1
                  clear R h2
                  go_enter Tryd.func17, Tryd.ntmps17
                  go_wp2_with (first | (go_at_call 22; refine cc.out.mono ?_; rintro e w1 ⟨v1, rfl, O1, B1⟩; obtain ⟨C1, k1, rfl⟩ := own_val1 O1; obtain ⟨g1, rfl⟩ := own_form1 O1 hpos0; have z0 := O1.cellAt 0 (by omega); rw [hc0.out] at z0; have z1 := O1.cellAt 1 (by omega); rw [hc1.out] at z1; clear O1) | (go_at_call 38; with_reducible refine (digs_is (S p0) a hA.out _).mono ?_; rintro e w' ⟨rfl, rfl⟩) | (go_at_call 38; with_reducible refine (digs_is (S p1) b hB.out _).mono ?_; rintro e w' ⟨rfl, rfl⟩) | (go_at_call 39; refine (sfr_is _ _ _ _ (by go_num) hN.out _).mono ?_; rintro e w' ⟨rfl, rfl⟩) | (go_at_call 21; refine (sfmt_not n s h1.out _).mono ?_; rintro e w2 ⟨x, rfl, hxs, B2⟩))
                  go_ret2
                  exact ⟨rfl, B1.trans (B2.mono B1.size)⟩
      · have t9 : (d == 45) = false := by rw [beq_eq_false_iff_ne]; exact h45
        have h45l : s.data.toList[0]? ≠ some 45 := by
          rw [hh]; intro q; apply h45; rw [← hd, Option.some.inj q]; rfl
        obtain ⟨t, htt⟩ : ∃ t, t = s := ⟨_, rfl⟩
        have htd : t.data.toList = tl s.data.toList := by
          rw [htt]; unfold tl
          rw [if_neg h45l]
        have hts : t.size ≤ 2000000 := by
          rw [htt]; exact hs
        have hsg : (if s.data.toList[0]? = some 45 then (-1 : Int) else 1) = 1 := if_neg h45l
        have cc := l1Cut_any t 47 47 rfl w hts
        have hne := sp_ne 47 t.data.toList
        obtain ⟨ps, hps⟩ : ∃ ps, sp 47 t.data.toList = ps := ⟨_, rfl⟩
        rw [hps] at cc hne
        rw [htd] at hps
        rw [htt] at cc
        have eA : pA s.data.toList = digs (ps.getD 0 []) := by unfold pA; rw [hps]
        have eB : pB s.data.toList = if 1 < ps.length then digs (ps.getD 1 []) else 1 := by unfold pB; rw [hps]
        have good := fun ha hb hc => psr_good hne0 h35l ha hb hc (1) hsg
        have bad := fun h => psr_bad hne0 h35l h
        rw [hps] at bad good
        clear hps htd hts htt hsg hh hne0 h35l h45l
        obtain ⟨p0, r0, rfl⟩ : ∃ p0 r0, ps = p0 :: r0 := by cases ps with | nil => exact absurd rfl hne | cons a b => exact ⟨a, b, rfl⟩
        obtain ⟨a, ha⟩ : ∃ a, digs p0 = a := ⟨_, rfl⟩
        have eA : pA s.data.toList = a := by rw [eA]; exact ha
        have hA : Hid (digs (S p0).data.toList = a) := Lib.hid (by rw [S_toList]; exact ha)
        have aLo := digs_lo p0
        have aHi := digs_hi p0
        rw [ha] at aLo aHi
        rw [eA] at good bad
        have hc0 := Lib.hid (show (vals (p0 :: r0))[0]? = some (.string (S p0)) from rfl)
        clear hne ha eA
        by_cases hr : r0 = []
        · subst hr
          have eB : pB s.data.toList = 1 := eB
          rw [eB] at good bad
          have hpos : 0 < ([p0] : List (List UInt8)).length := by simp
          have cc := Lib.hid cc
          clear eB
          by_cases ha : a < 0
          · have R := bad (Or.inl ha)
            have t1 : decide (a < 0) = true := decide_eq_true ha
            clear good bad
            rw [R]
            clear R
            go_enter Tryd.func17, Tryd.ntmps17
            go_wp2_with (first | (go_at_call 22; refine cc.out.mono ?_; rintro e w1 ⟨v1, rfl, O1, B1⟩; obtain ⟨C1, k1, rfl⟩ := own_val1 O1; obtain ⟨g1, rfl⟩ := own_form1 O1 hpos; have z0 := O1.cellAt 0 (by omega); rw [hc0.out] at z0; skip; clear O1) | (go_at_call 38; with_reducible refine (digs_is (S p0) a hA.out _).mono ?_; rintro e w' ⟨rfl, rfl⟩))
            go_ret2
            exact ⟨rfl, B1⟩
          · have t1 : decide (a < 0) = false := decide_eq_false ha
            have R := good (by omega) (by omega) (by simp)
            obtain ⟨n, hn⟩ : ∃ n, fr (1 * a) 1 = n := ⟨_, rfl⟩
            rw [hn] at R
            have hN := Lib.hid hn
            clear good bad hn
            rcases fin_case s.data.toList n with ⟨h1, h2⟩ | ⟨h1, h2⟩
            · rw [h2] at R
              rw [R]
              have h1 := Lib.hid h1
              clear R h2
              go_enter Tryd.func17, Tryd.ntmps17
              go_wp2_with (first | (go_at_call 22; refine cc.out.mono ?_; rintro e w1 ⟨v1, rfl, O1, B1⟩; obtain ⟨C1, k1, rfl⟩ := own_val1 O1; obtain ⟨g1, rfl⟩ := own_form1 O1 hpos; have z0 := O1.cellAt 0 (by omega); rw [hc0.out] at z0; skip; clear O1) | (go_at_call 38; with_reducible refine (digs_is (S p0) a hA.out _).mono ?_; rintro e w' ⟨rfl, rfl⟩) | (go_at_call 39; refine (sfr_is _ _ _ _ (by go_num) hN.out _).mono ?_; rintro e w' ⟨rfl, rfl⟩) | (go_at_call 21; refine (sfmt_is n s h1.out _).mono ?_; rintro e w2 ⟨rfl, B2⟩))
              go_ret2
              exact ⟨rfl, B1.trans (B2.mono B1.size)⟩
            · rw [h2] at R
              rw [R]
              have h1 := Lib.hid h1
              clear R h2
              go_enter Tryd.func17, Tryd.ntmps17
              go_wp2_with (first | (go_at_call 22; refine cc.out.mono ?_; rintro e w1 ⟨v1, rfl, O1, B1⟩; obtain ⟨C1, k1, rfl⟩ := own_val1 O1; obtain ⟨g1, rfl⟩ := own_form1 O1 hpos; have z0 := O1.cellAt 0 (by omega); rw [hc0.out] at z0; skip; clear O1) | (go_at_call 38; with_reducible refine (digs_is (S p0) a hA.out _).mono ?_; rintro e w' ⟨rfl, rfl⟩) | (go_at_call 39; refine (sfr_is _ _ _ _ (by go_num) hN.out _).mono ?_; rintro e w' ⟨rfl, rfl⟩) | (go_at_call 21; refine (sfmt_not n s h1.out _).mono ?_; rintro e w2 ⟨x, rfl, hxs, B2⟩))
              go_ret2
              exact ⟨rfl, B1.trans (B2.mono B1.size)⟩
        · obtain ⟨p1, r1, rfl⟩ : ∃ p1 r1, r0 = p1 :: r1 := by cases r0 with | nil => exact absurd rfl hr | cons a b => exact ⟨a, b, rfl⟩
          obtain ⟨b, hb⟩ : ∃ b, digs p1 = b := ⟨_, rfl⟩
          have eB : pB s.data.toList = b := by rw [eB, if_pos (by simp)]; exact hb
          have hB : Hid (digs (S p1).data.toList = b) := Lib.hid (by rw [S_toList]; exact hb)
          have bLo := digs_lo p1
          have bHi := digs_hi p1
          rw [hb] at bLo bHi
          rw [eB] at good bad
          have hc1 := Lib.hid (show (vals (p0 :: p1 :: r1))[1]? = some (.string (S p1)) from rfl)
          have hpos : 1 < (p0 :: p1 :: r1).length := by simp
          obtain ⟨m, hm⟩ : ∃ m, (p0 :: p1 :: r1).length = m := ⟨_, rfl⟩
          rw [hm] at cc good bad hpos
          have hpos0 : 0 < m := by omega
          have cc := Lib.hid cc
          clear eB hb hr
          by_cases ha : a < 0
          · have R := bad (Or.inl ha)
            have t1 : decide (a < 0) = true := decide_eq_true ha
            clear good bad
            rw [R]
            clear R
            go_enter Tryd.func17, Tryd.ntmps17
            go_wp2_with (first | (go_at_call 22; refine cc.out.mono ?_; rintro e w1 ⟨v1, rfl, O1, B1⟩; obtain ⟨C1, k1, rfl⟩ := own_val1 O1; obtain ⟨g1, rfl⟩ := own_form1 O1 hpos0; have z0 := O1.cellAt 0 (by omega); rw [hc0.out] at z0; have z1 := O1.cellAt 1 (by omega); rw [hc1.out] at z1; clear O1) | (go_at_call 38; with_reducible refine (digs_is (S p0) a hA.out _).mono ?_; rintro e w' ⟨rfl, rfl⟩) | (go_at_call 38; with_reducible refine (digs_is (S p1) b hB.out _).mono ?_; rintro e w' ⟨rfl, rfl⟩))
            go_ret2
            exact ⟨rfl, B1⟩
          · have t1 : decide (a < 0) = false := decide_eq_false ha
            by_cases hb : b < 0
            · have R := bad (Or.inr (Or.inl hb))
              have t2 : decide (b < 0) = true := decide_eq_true hb
              clear good bad
              rw [R]
              clear R
              go_enter Tryd.func17, Tryd.ntmps17
              go_wp2_with (first | (go_at_call 22; refine cc.out.mono ?_; rintro e w1 ⟨v1, rfl, O1, B1⟩; obtain ⟨C1, k1, rfl⟩ := own_val1 O1; obtain ⟨g1, rfl⟩ := own_form1 O1 hpos0; have z0 := O1.cellAt 0 (by omega); rw [hc0.out] at z0; have z1 := O1.cellAt 1 (by omega); rw [hc1.out] at z1; clear O1) | (go_at_call 38; with_reducible refine (digs_is (S p0) a hA.out _).mono ?_; rintro e w' ⟨rfl, rfl⟩) | (go_at_call 38; with_reducible refine (digs_is (S p1) b hB.out _).mono ?_; rintro e w' ⟨rfl, rfl⟩))
              go_ret2
              exact ⟨rfl, B1⟩
            · have t2 : decide (b < 0) = false := decide_eq_false hb
              by_cases hm2 : 2 < m
              · have R := bad (Or.inr (Or.inr hm2))
                have t3 : decide ((m : Int) > 2) = true := decide_eq_true (by omega)
                clear good bad
                rw [R]
                clear R
                go_enter Tryd.func17, Tryd.ntmps17
                go_wp2_with (first | (go_at_call 22; refine cc.out.mono ?_; rintro e w1 ⟨v1, rfl, O1, B1⟩; obtain ⟨C1, k1, rfl⟩ := own_val1 O1; obtain ⟨g1, rfl⟩ := own_form1 O1 hpos0; have z0 := O1.cellAt 0 (by omega); rw [hc0.out] at z0; have z1 := O1.cellAt 1 (by omega); rw [hc1.out] at z1; clear O1) | (go_at_call 38; with_reducible refine (digs_is (S p0) a hA.out _).mono ?_; rintro e w' ⟨rfl, rfl⟩) | (go_at_call 38; with_reducible refine (digs_is (S p1) b hB.out _).mono ?_; rintro e w' ⟨rfl, rfl⟩))
                go_ret2
                exact ⟨rfl, B1⟩
              · have t3 : decide ((m : Int) > 2) = false := decide_eq_false (by omega)
                have R := good (by omega) (by omega) (by omega)
                obtain ⟨n, hn⟩ : ∃ n, fr (1 * a) b = n := ⟨_, rfl⟩
                rw [hn] at R
                have hN := Lib.hid hn
                clear good bad hn
                rcases fin_case s.data.toList n with ⟨h1, h2⟩ | ⟨h1, h2⟩
                · rw [h2] at R
                  rw [R]
                  have h1 := Lib.hid h1
                  clear R h2
                  go_enter Tryd.func17, Tryd.ntmps17
                  go_wp2_with (first | (go_at_call 22; refine cc.out.mono ?_; rintro e w1 ⟨v1, rfl, O1, B1⟩; obtain ⟨C1, k1, rfl⟩ := own_val1 O1; obtain ⟨g1, rfl⟩ := own_form1 O1 hpos0; have z0 := O1.cellAt 0 (by omega); rw [hc0.out] at z0; have z1 := O1.cellAt 1 (by omega); rw [hc1.out] at z1; clear O1) | (go_at_call 38; with_reducible refine (digs_is (S p0) a hA.out _).mono ?_; rintro e w' ⟨rfl, rfl⟩) | (go_at_call 38; with_reducible refine (digs_is (S p1) b hB.out _).mono ?_; rintro e w' ⟨rfl, rfl⟩) | (go_at_call 39; refine (sfr_is _ _ _ _ (by go_num) hN.out _).mono ?_; rintro e w' ⟨rfl, rfl⟩) | (go_at_call 21; refine (sfmt_is n s h1.out _).mono ?_; rintro e w2 ⟨rfl, B2⟩))
                  go_ret2
                  exact ⟨rfl, B1.trans (B2.mono B1.size)⟩
                · rw [h2] at R
                  rw [R]
                  have h1 := Lib.hid h1
                  clear R h2
                  go_enter Tryd.func17, Tryd.ntmps17
                  go_wp2_with (first | (go_at_call 22; refine cc.out.mono ?_; rintro e w1 ⟨v1, rfl, O1, B1⟩; obtain ⟨C1, k1, rfl⟩ := own_val1 O1; obtain ⟨g1, rfl⟩ := own_form1 O1 hpos0; have z0 := O1.cellAt 0 (by omega); rw [hc0.out] at z0; have z1 := O1.cellAt 1 (by omega); rw [hc1.out] at z1; clear O1) | (go_at_call 38; with_reducible refine (digs_is (S p0) a hA.out _).mono ?_; rintro e w' ⟨rfl, rfl⟩) | (go_at_call 38; with_reducible refine (digs_is (S p1) b hB.out _).mono ?_; rintro e w' ⟨rfl, rfl⟩) | (go_at_call 39; refine (sfr_is _ _ _ _ (by go_num) hN.out _).mono ?_; rintro e w' ⟨rfl, rfl⟩) | (go_at_call 21; refine (sfmt_not n s h1.out _).mono ?_; rintro e w2 ⟨x, rfl, hxs, B2⟩))
                  go_ret2
                  exact ⟨rfl, B1.trans (B2.mono B1.size)⟩
end Go.Proofs.YtjlcmafeemdneaaDoor
