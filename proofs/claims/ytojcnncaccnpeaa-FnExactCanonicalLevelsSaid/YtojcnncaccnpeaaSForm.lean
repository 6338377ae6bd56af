/- The contract of the reference's greatest list of levels. -/
import Derived.Test.YtojcnncaccnpeaaForm
import Derived.Test.YtojcnncaccnpeaaSParts
import Derived.Test.YtojcnncaccnpeaaIns
namespace Go.Proofs.Ytojcnncaccnpeaa
open Go.RowKit Go.PlainNum

set_option maxRecDepth 100000 in
set_option maxHeartbeats 4000000 in
theorem sform_any : ∀ m, m ≤ 6 → ∀ (B : Nat) (A : Option Addr) (n c : Nat) (zs : List Int) (w : World), Rd w B A n zs → B ≤ w.heap.size → n ≤ 6 → Lv zs → n ≤ m →
    Calls Try.prog 11 #[.slice A n c] w fun e w' => FrmP w w' (frm m zs) e := by
  intro m
  induction m with
  | zero => intro _ B A n c zs w h _ _ hlv hn; have := hlv.pos; have := h.1; omega
  | succ m ih =>
    intro hm6 B A n c zs w h hB hn6 hlv hnm
    have hl := h.1
    have hn1 : 0 < n := by have := hlv.pos; omega
    obtain ⟨i0, hi0, hz0, hz1, hz2⟩ := info_parts infoInt
    obtain ⟨i1, hi1, hy0, hy1, hy2⟩ := info_parts infoRow
    obtain ⟨⟨k, R⟩, hkR⟩ : ∃ s, prts zs (n - 1) = s := ⟨_, rfl⟩
    have PK := prt_ok hlv (n - 1) (by omega)
    rw [hkR] at PK
    have hk : k ≤ n - 1 := PK.le
    have hRlv : Hid (∀ x, x < k → Lv (R x)) := Lib.hid PK.lv
    have hRlen : Hid (∀ x, x < k → (R x).length ≤ n - 1) := Lib.hid PK.len
    have hF : Hid (frm (m + 1) zs = cat (srt (fun i => frm m (R i)) k) k) := Lib.hid (frm_succ (by rw [hl]; exact hkR))
    obtain ⟨F, hFd⟩ : ∃ F : Nat → List Int, (fun i => frm m (R i)) = F := ⟨_, rfl⟩
    have hFb : Hid (∀ x, x < k → Bd 4000 6 (F x)) := Lib.hid (fun x hx => by
      rw [← hFd]
      have q := frm_bd m (R x) (hRlv.out x hx) (by have := hRlen.out x hx; omega)
      have b5 := bnd_5 m (by omega)
      exact ⟨Nat.le_trans q.1 b5, fun z hz => by have := q.2 z hz; omega⟩)
    have IH : Hid (∀ x, x < k → ∀ (B : Nat) (b cc : Nat) (w : World), Rd w B (some ⟨b, 0, none⟩) (R x).length (R x) → B ≤ w.heap.size → Calls Try.prog 11 #[.slice (some ⟨b, 0, none⟩) (R x).length cc] w fun e w' => FrmP w w' (F x) e) := Lib.hid (fun x hx B b cc w h1 h2 => by
      rw [← hFd]
      have := hRlen.out x hx
      exact ih (by omega) B _ _ cc (R x) w h1 h2 (by omega) (hRlv.out x hx) (by omega))
    rw [hFd] at hF
    have H := Lib.hid h
    have hlv := Lib.hid hlv
    have hkR := Lib.hid hkR
    clear ih h hFd PK
    go_enter Try.func11, Try.ntmps11
    go_wp2_with fail
    refine (sparts_any B _ n c k zs R w H.out hB hn6 hlv.out hkR.out).mono ?_
    rintro e w1 ⟨g, cap, bs1, ks1, rfl, T1, B1⟩
    have T1 := Lib.hid T1
    have B1 := Lib.hid B1
    have sz1 : w.heap.size ≤ w1.heap.size := B1.out.size
    go_wp2_with fail
    go_loopw [4, 5] (fun p x wr => ∃ (i gS capS : Nat) (bS kS : Nat → Nat), p = .slice (some ⟨gS, 0, none⟩) i capS ∧ x = .int .i64 i ∧ i ≤ k ∧ Hid (Tob wr w1.heap.size (.slice (some ⟨gS, 0, none⟩) i capS) i bS kS (srt F i)) ∧ Hid (Below w1.heap.size w1 wr)) (fun _ x _ => k - (intOf x).toNat)
    case atStart => exact ⟨0, _, _, fun _ => 0, fun _ => 0, rfl, rfl, Nat.zero_le _, Lib.hid (tob_zero w1), Lib.hid ((Below.refl _ _).alloc (Nat.le_refl _) _)⟩
    case round =>
      rename_i wr _
      obtain ⟨i, gS, capS, bS, kS, rfl, rfl, hi, HM, HB⟩ := hrel
      by_cases hlt : i < k
      · have szr : w1.heap.size ≤ wr.heap.size := HB.out.size
        have O1 := T1.out.row i hlt
        have m1 : wr.cell? ⟨g, i, none⟩ = some (.slice (some ⟨bs1 i, 0, none⟩) (R i).length (ks1 i)) := (HB.out.cell (p := ⟨g, i, none⟩) (T1.out.out.lt g rfl).2).trans (by rw [T1.out.out.cellAt i (by omega), hdv_get _ _ _ _ _ hlt])
        have CI := Lib.hid (IH.out i hlt w1.heap.size (bs1 i) (ks1 i) wr ((own_rd O1).below HB.out (Nat.le_refl _)) szr)
        obtain ⟨b1, hb1⟩ : ∃ b1, bs1 i = b1 := ⟨_, rfl⟩
        obtain ⟨k1, hk1⟩ : ∃ k1, ks1 i = k1 := ⟨_, rfl⟩
        obtain ⟨n1, hn1'⟩ : ∃ n1, (R i).length = n1 := ⟨_, rfl⟩
        rw [hb1, hk1, hn1'] at m1 CI
        clear O1 hb1 hk1 hn1'
        have hFl : (F i).length ≤ 4000 := (hFb.out i hlt).1
        have hSl : Hid (∀ x, x < i → (srt F i x).length ≤ 4000) := Lib.hid (fun x hx => by
          obtain ⟨y, hy, e⟩ := srt_mem F i x hx
          rw [e]; exact (hFb.out y (by omega)).1)
        go_wp2_with fail
        refine CI.out.mono ?_
        rintro e w2 ⟨g2, c2, rfl, O2, B2⟩
        have s2 : wr.heap.size ≤ w2.heap.size := B2.size
        have M2 := HM.out.below B2
        have HB2 := Lib.hid (HB.out.trans (B2.mono szr))
        have hne := Lib.hid (fun x (hx : x < i) => (by have h1 := (row_lt (HM.out.row x hx)).2; have h2 := (row_lt O2).1; omega : bS x ≠ g2))
        have O2 := Lib.hid (own_lower O2 szr)
        have M2 := Lib.hid M2
        obtain ⟨n2, hn2'⟩ : ∃ n2, (F i).length = n2 := ⟨_, rfl⟩
        rw [hn2'] at O2 hFl
        rw [hn2']
        have hn2' := Lib.hid hn2'
        clear B2 m1 HM HB
        go_wp2_with fail
        go_loopw [7] (fun x wr => ∃ j : Nat, x = .int .i64 j ∧ j ≤ i ∧ Hid (pos (srt F i) (F i) i = pos (srt F i) (F i) j) ∧ Hid (∃ a, wr = w2.drewN a)) (fun x _ => (intOf x).toNat)
        case atStart => exact ⟨i, rfl, Nat.le_refl _, Lib.hid rfl, Lib.hid ⟨0, rfl⟩⟩
        case round =>
          obtain ⟨j, rfl, hji, HP, HW⟩ := hrel
          have DONE : Hid (pos (srt F i) (F i) j = j → srt F (i + 1) = arr F i j) := Lib.hid (fun e => by rw [srt_succ, HP.out, e])
          have MV : Hid (Tob wr w1.heap.size (.slice (some ⟨gS, 0, none⟩) i capS) i bS kS (srt F i)) := Lib.hid (by obtain ⟨a, ha⟩ := HW.out; rw [ha]; exact M2.out.below (bel_drewN (Below.refl _ _) _))
          have OV : Hid (wr.ownsRow w1.heap.size 3 1 (.slice (some ⟨g2, 0, none⟩) n2 c2) n2 ((F i).map (Value.int .i64))) := Lib.hid (by obtain ⟨a, ha⟩ := HW.out; rw [ha]; exact own_below O2.out (bel_drewN (Below.refl _ _) _))
          have BV : Hid (Below w1.heap.size w1 wr) := Lib.hid (by obtain ⟨a, ha⟩ := HW.out; rw [ha]; exact bel_drewN HB2.out _)
          have szv : w1.heap.size ≤ wr.heap.size := BV.out.size
          by_cases hj0 : j = 0
          · subst hj0
            have DN := Lib.hid (DONE.out (pos_zero _ _))
            go_wp2_with (at_builtin; refine wpList_append_lies _ rfl _ _ 29 rfl w1.heap.size 22 i1 (.slice none 0 0) 1 24 Try.underlying29 hi1 hy0 hy1 hy2 rfl (by decide) _ i _ rfl (MV.out.out.alloc _) _ 1 1 [.slice none 0 0] rfl rfl (cell_one_new _ _ _) (by intro u hu; simp at hu; subst hu; rfl) (by decide) (by unfold maxLen; omega) (by omega) (by have := BV.out.size; simp only [asz]; omega) _ rfl ?_)
            intro g5 c5 w5 O5 G5 _ _
            have al : Below wr.heap.size wr (wr.alloc (.cells #[.slice none 0 0] 22)) := (Below.refl _ _).alloc (Nat.le_refl _) _
            have M5 := MV.out.below al
            have tg := fun {b c L : Nat} {r : List Int} (q : World.ownsRow (wr.alloc (.cells #[.slice none 0 0] 22)) w1.heap.size 3 1 (.slice (some ⟨b, 0, none⟩) L c) L (r.map (Value.int .i64))) => own_grown q G5 (fun g' hg => own_tags q M5.out (by decide) g' hg)
            have rows5 := Lib.hid (fun x (hx : x < i) => tg (M5.row x hx))
            have prow5 := Lib.hid (tg (own_below OV.out al))
            have B5 := Lib.hid (((BV.out.alloc BV.out.size (.cells #[.slice none 0 0] 22))).grown G5 (by have := BV.out.size; simp only [asz]; omega) (fun q hq => (MV.out.out.lt q hq).1))
            obtain ⟨cur, hcur, hcl, htake, hb5, hic, hcm⟩ := own_cur O5
            have htake := Lib.hid htake
            have hcur := Lib.hid hcur
            have hcl := Lib.hid hcl
            have hcm := Lib.hid hcm
            have ap := Lib.hid MV.out.apart
            clear O5 G5 al M5 tg MV OV BV
            have hki : 0 ≤ i := by omega
            have hHl := Lib.hid (hdv_len i bS kS (srt F i))
            have FIN := Lib.hid (fun w6 (h6 : Hid (w6.heap[g5]? = some (.cells (splice cur (0 + 1) ((hdv i bS kS (srt F i)).drop 0)).toArray 22 (0, 0)))) (G6 : w5.grownBy w6 (some g5)) => (by
              have X := ins_tob (g2 := g2) (c2 := c2) (p := F i) hb5 hcm.out hki hcl.out hic htake.out hcur.out rows5.out (by rw [hn2'.out]; exact prow5.out) ap.out hne.out h6.out G6
              rw [hn2'.out] at X
              exact ⟨X.1.congr (R' := srt F (i + 1)) (fun x hx => by rw [DN.out]; unfold arr; rw [if_pos (show x ≤ i by omega)]), (B5.out.grown G6 (by have := B5.out.size; omega) (fun q hq => by have := Option.some.inj hq; omega)).setCell (p := ⟨g5, 0, none⟩) hb5 _, X.2.1, X.2.2⟩ :
              Tob (w6.setCell ⟨g5, 0, none⟩ (.slice (some ⟨g2, 0, none⟩) n2 c2)) w1.heap.size (.slice (some ⟨g5, 0, none⟩) (i + 1) c5) (i + 1) (insN bS g2 0) (insN kS c2 0) (srt F (i + 1)) ∧ Below w1.heap.size w1 (w6.setCell ⟨g5, 0, none⟩ (.slice (some ⟨g2, 0, none⟩) n2 c2)) ∧ (∃ u, w6.cell? ⟨g5, 0, none⟩ = some u) ∧ w6.frozen? ⟨g5, 0, none⟩ = false))
            have HC : Hid (∀ y v, ((hdv i bS kS (srt F i)).drop 0)[y]? = some v → w5.drew.cell? ((⟨g5, 0, none⟩ : Addr).add y) = some v) := Lib.hid (fun y v hv => by
              rw [List.getElem?_drop] at hv
              have hlt9 : 0 + y < i := by
                rcases Nat.lt_or_ge (0 + y) i with h9 | h9
                · exact h9
                · rw [List.getElem?_eq_none (by rw [hHl.out]; exact h9)] at hv; simp at hv
              have e9 : (⟨g5, 0, none⟩ : Addr).add y = ⟨g5, 0 + y, none⟩ := by unfold Addr.add; split <;> simp_all
              rw [e9]
              show w5.cell? ⟨g5, 0 + y, none⟩ = some v
              rw [cell_of_row w5 g5 (0 + y) cur.toArray 22 (0, 0) hcur.out]
              have q9 : (cur.take (i + 1))[0 + y]? = (hdv i bS kS (srt F i) ++ [.slice none 0 0])[0 + y]? := by rw [htake.out]
              rw [List.getElem?_take_of_lt (by omega), List.getElem?_append_left (by rw [hHl.out]; exact hlt9), hv] at q9
              simpa using q9)
            have H1 : Hid (∀ v ∈ (hdv i bS kS (srt F i)).drop 0, v.oneCell' = true) := Lib.hid (fun v hv => by
              have hv := List.mem_of_mem_drop hv
              unfold hdv at hv
              rw [List.mem_map] at hv
              obtain ⟨y, _, rfl⟩ := hv
              rfl)
            have hlen9 : Hid (((hdv i bS kS (srt F i)).drop 0).length = i - 0) := Lib.hid (by rw [List.length_drop, hHl.out])
            obtain ⟨CS, hCS⟩ : ∃ CS, (hdv i bS kS (srt F i)).drop 0 = CS := ⟨_, rfl⟩
            rw [hCS] at FIN HC H1 hlen9
            clear hCS
            have hcl5 := hcl.out
            have hinf : Hid ((Try.prog.info? 22).map (·.size) = some 1) := Lib.hid (by rw [hi1]; simp [hy1])
            have a1 : IntKind.i64.wrap 1 = 1 := by rw [IntKind.wrap_i64]; omega
            have a2 : (1 : Int) ≤ (i : Int) + 1 := by omega
            have a3 : (0 : Int) ≤ (i : Int) + 1 := by omega
            have a4 : ¬ c5 = 0 := by omega
            have a5 : (0 : Int) ≤ (i : Int) := by omega
            by_cases hkc : c5 = 0 + 1
            · subst hkc
              go_wp2_with fail
              go_region_law ((refine step_copy_gb rfl (.tmp 46) (.tmp 49) 29 29 rfl 22 Try.underlying29 hinf.out (some ⟨g5, 0, none⟩) (some ⟨g5, 0, none⟩) 0 0 (i + 1) 1 (by go_simp) (by go_simp) g5 (0 + 1) cur 22 hcur.out CS (by rw [hlen9.out]; show _ = min _ _; omega) (fun h0 => absurd h0 (by rw [hlen9.out]; omega)) (by rw [hlen9.out]; omega) H1.out ?_; intro w6 h6 G6; obtain ⟨Z1, Z2, ⟨u6, m6⟩, f6⟩ := FIN.out w6 h6 ⟨G6.os, G6.tape, G6.output, G6.size, G6.block⟩; have Z1 := Lib.hid Z1; have Z2 := Lib.hid Z2; clear h6 G6))
              all_goals (
                clear a1 a2 a3 a4 a5
                go_wp2_with fail
                go_roundw)
              all_goals first | exact ⟨i + 1, _, _, _, _, rfl, by go_num, by omega, Z1, Z2⟩ | (simp [intOf]; omega)
            · go_wp2_with fail
              go_region_law ((refine step_copy_gb rfl (.tmp 46) (.tmp 49) 29 29 rfl 22 Try.underlying29 hinf.out (some ⟨g5, 1, none⟩) (some ⟨g5, 0, none⟩) i (c5 - 1) (i + 1) c5 (by go_simp) (by go_simp) g5 (0 + 1) cur 22 hcur.out CS (by rw [hlen9.out]; show _ = min _ _; omega) (fun h0 => ⟨rfl, ⟨g5, 0, none⟩, rfl, HC.out⟩) (by rw [hlen9.out]; omega) H1.out ?_; intro w6 h6 G6; obtain ⟨Z1, Z2, ⟨u6, m6⟩, f6⟩ := FIN.out w6 h6 ⟨G6.os, G6.tape, G6.output, G6.size, G6.block⟩; have Z1 := Lib.hid Z1; have Z2 := Lib.hid Z2; clear h6 G6))
              all_goals (
                clear a1 a2 a3 a4 a5
                go_wp2_with fail
                go_roundw)
              all_goals first | exact ⟨i + 1, _, _, _, _, rfl, by go_num, by omega, Z1, Z2⟩ | (simp [intOf]; omega)
          · obtain ⟨q, rfl⟩ : ∃ q, j = q + 1 := ⟨j - 1, by omega⟩
            have hqi : q < i := by omega
            have t1 : decide (((q + 1 : Nat) : Int) > 0) = true := decide_eq_true (by omega)
            have mq : wr.cell? ⟨gS, q, none⟩ = some (.slice (some ⟨bS q, 0, none⟩) (srt F i q).length (kS q)) := by rw [MV.out.out.cellAt q (by omega), hdv_get _ _ _ _ _ hqi]
            have hsl := hSl.out q hqi
            have CL := Lib.hid (l2Less_any (some ⟨bS q, 0, none⟩) (some ⟨g2, 0, none⟩) (srt F i q).length n2 (kS q) c2 (srt F i q) (F i) wr (own_rd (MV.out.row q hqi)) (own_rd OV.out) (by omega) (by omega))
            have PY := Lib.hid (fun (h : ltL (srt F i q) (F i) = true) => (HP.out.trans (pos_yes h) : pos (srt F i) (F i) i = pos (srt F i) (F i) q))
            have PN := Lib.hid (fun (h : ltL (srt F i q) (F i) = false) => DONE.out (pos_no h))
            obtain ⟨ys, hys⟩ : ∃ ys, srt F i q = ys := ⟨_, rfl⟩
            rw [hys] at mq hsl CL PY PN
            obtain ⟨b3, hb3⟩ : ∃ b3, bS q = b3 := ⟨_, rfl⟩
            obtain ⟨k3, hk3⟩ : ∃ k3, kS q = k3 := ⟨_, rfl⟩
            obtain ⟨n3, hn3⟩ : ∃ n3, ys.length = n3 := ⟨_, rfl⟩
            rw [hb3, hk3, hn3] at mq CL
            rw [hn3] at hsl
            clear hys hb3 hk3 hn3 hj0
            cases hlt2 : ltL ys (F i) with
            | true =>
              rw [hlt2] at CL
              have PY := Lib.hid (PY.out hlt2)
              clear hlt2
              go_wp2_with fail
              refine CL.out.mono ?_
              rintro e w' ⟨rfl, a, rfl⟩
              go_wp2_with fail
              go_roundw
              case rel => exact ⟨q, by go_num, by omega, PY, Lib.hid (by obtain ⟨b, hb⟩ := HW.out; rw [hb]; exact ⟨_, World.drewN_drewN _ _ _⟩)⟩
              case measure => simp [intOf]
            | false =>
              rw [hlt2] at CL
              have DN := Lib.hid (PN.out hlt2)
              clear hlt2
              go_wp2_with fail
              refine CL.out.mono ?_
              rintro e w' ⟨rfl, a, rfl⟩
              have MV := Lib.hid (MV.out.below (bel_drewN (Below.refl _ _) a))
              have OV := Lib.hid (own_below OV.out (bel_drewN (Below.refl _ _) a))
              have BV := Lib.hid (bel_drewN BV.out a)
              go_wp2_with (at_builtin; refine wpList_append_lies _ rfl _ _ 29 rfl w1.heap.size 22 i1 (.slice none 0 0) 1 24 Try.underlying29 hi1 hy0 hy1 hy2 rfl (by decide) _ i _ rfl (MV.out.out.alloc _) _ 1 1 [.slice none 0 0] rfl rfl (cell_one_new _ _ _) (by intro u hu; simp at hu; subst hu; rfl) (by decide) (by unfold maxLen; omega) (by omega) (by have := BV.out.size; simp only [asz]; omega) _ rfl ?_)
              intro g5 c5 w5 O5 G5 _ _
              have al : Below (wr.drewN a).heap.size (wr.drewN a) ((wr.drewN a).alloc (.cells #[.slice none 0 0] 22)) := (Below.refl _ _).alloc (Nat.le_refl _) _
              have M5 := MV.out.below al
              have tg := fun {b c L : Nat} {r : List Int} (q : World.ownsRow ((wr.drewN a).alloc (.cells #[.slice none 0 0] 22)) w1.heap.size 3 1 (.slice (some ⟨b, 0, none⟩) L c) L (r.map (Value.int .i64))) => own_grown q G5 (fun g' hg => own_tags q M5.out (by decide) g' hg)
              have rows5 := Lib.hid (fun x (hx : x < i) => tg (M5.row x hx))
              have prow5 := Lib.hid (tg (own_below OV.out al))
              have B5 := Lib.hid (((BV.out.alloc BV.out.size (.cells #[.slice none 0 0] 22))).grown G5 (by have := BV.out.size; simp only [asz]; omega) (fun q hq => (MV.out.out.lt q hq).1))
              obtain ⟨cur, hcur, hcl, htake, hb5, hic, hcm⟩ := own_cur O5
              have htake := Lib.hid htake
              have hcur := Lib.hid hcur
              have hcl := Lib.hid hcl
              have hcm := Lib.hid hcm
              have ap := Lib.hid MV.out.apart
              clear O5 G5 al M5 tg MV OV BV
              have hki : (q + 1) ≤ i := by omega
              have hHl := Lib.hid (hdv_len i bS kS (srt F i))
              have FIN := Lib.hid (fun w6 (h6 : Hid (w6.heap[g5]? = some (.cells (splice cur ((q + 1) + 1) ((hdv i bS kS (srt F i)).drop (q + 1))).toArray 22 (0, 0)))) (G6 : w5.grownBy w6 (some g5)) => (by
                have X := ins_tob (g2 := g2) (c2 := c2) (p := F i) hb5 hcm.out hki hcl.out hic htake.out hcur.out rows5.out (by rw [hn2'.out]; exact prow5.out) ap.out hne.out h6.out G6
                rw [hn2'.out] at X
                exact ⟨X.1.congr (R' := srt F (i + 1)) (fun x hx => by rw [DN.out]; unfold arr; rw [if_pos (show x ≤ i by omega)]), (B5.out.grown G6 (by have := B5.out.size; omega) (fun q hq => by have := Option.some.inj hq; omega)).setCell (p := ⟨g5, (q + 1), none⟩) hb5 _, X.2.1, X.2.2⟩ :
                Tob (w6.setCell ⟨g5, (q + 1), none⟩ (.slice (some ⟨g2, 0, none⟩) n2 c2)) w1.heap.size (.slice (some ⟨g5, 0, none⟩) (i + 1) c5) (i + 1) (insN bS g2 (q + 1)) (insN kS c2 (q + 1)) (srt F (i + 1)) ∧ Below w1.heap.size w1 (w6.setCell ⟨g5, (q + 1), none⟩ (.slice (some ⟨g2, 0, none⟩) n2 c2)) ∧ (∃ u, w6.cell? ⟨g5, (q + 1), none⟩ = some u) ∧ w6.frozen? ⟨g5, (q + 1), none⟩ = false))
              have HC : Hid (∀ y v, ((hdv i bS kS (srt F i)).drop (q + 1))[y]? = some v → w5.drew.cell? ((⟨g5, (q + 1), none⟩ : Addr).add y) = some v) := Lib.hid (fun y v hv => by
                rw [List.getElem?_drop] at hv
                have hlt9 : (q + 1) + y < i := by
                  rcases Nat.lt_or_ge ((q + 1) + y) i with h9 | h9
                  · exact h9
                  · rw [List.getElem?_eq_none (by rw [hHl.out]; exact h9)] at hv; simp at hv
                have e9 : (⟨g5, (q + 1), none⟩ : Addr).add y = ⟨g5, (q + 1) + y, none⟩ := by unfold Addr.add; split <;> simp_all
                rw [e9]
                show w5.cell? ⟨g5, (q + 1) + y, none⟩ = some v
                rw [cell_of_row w5 g5 ((q + 1) + y) cur.toArray 22 (0, 0) hcur.out]
                have q9 : (cur.take (i + 1))[(q + 1) + y]? = (hdv i bS kS (srt F i) ++ [.slice none 0 0])[(q + 1) + y]? := by rw [htake.out]
                rw [List.getElem?_take_of_lt (by omega), List.getElem?_append_left (by rw [hHl.out]; exact hlt9), hv] at q9
                simpa using q9)
              have H1 : Hid (∀ v ∈ (hdv i bS kS (srt F i)).drop (q + 1), v.oneCell' = true) := Lib.hid (fun v hv => by
                have hv := List.mem_of_mem_drop hv
                unfold hdv at hv
                rw [List.mem_map] at hv
                obtain ⟨y, _, rfl⟩ := hv
                rfl)
              have hlen9 : Hid (((hdv i bS kS (srt F i)).drop (q + 1)).length = i - (q + 1)) := Lib.hid (by rw [List.length_drop, hHl.out])
              obtain ⟨CS, hCS⟩ : ∃ CS, (hdv i bS kS (srt F i)).drop (q + 1) = CS := ⟨_, rfl⟩
              rw [hCS] at FIN HC H1 hlen9
              clear hCS
              have hcl5 := hcl.out
              have hinf : Hid ((Try.prog.info? 22).map (·.size) = some 1) := Lib.hid (by rw [hi1]; simp [hy1])
              have a1 : IntKind.i64.wrap ((q : Int) + 1 + 1) = (q : Int) + 1 + 1 := by rw [IntKind.wrap_i64]; omega
              have a2 : (0 : Int) ≤ (q : Int) + 1 + 1 := by omega
              have a3 : (q : Int) + 1 + 1 ≤ (i : Int) + 1 := by omega
              have a4 : ((q : Int) + 1 + 1).toNat = q + 1 + 1 := by omega
              have a5 : (0 : Int) ≤ (q : Int) + 1 := by omega
              have a6 : (q : Int) + 1 ≤ (i : Int) + 1 := by omega
              have a7 : ((q : Int) + 1).toNat = q + 1 := by omega
              have a8 : ¬ c5 = q + 1 := by omega
              have a9 : (q : Int) + 1 ≤ (i : Int) := by omega
              by_cases hkc : c5 = (q + 1) + 1
              · subst hkc
                go_wp2_with fail
                go_region_law ((refine step_copy_gb rfl (.tmp 46) (.tmp 49) 29 29 rfl 22 Try.underlying29 hinf.out (some ⟨g5, 0, none⟩) (some ⟨g5, q + 1, none⟩) 0 0 (i - q) 1 (by go_simp) (by go_simp) g5 ((q + 1) + 1) cur 22 hcur.out CS (by rw [hlen9.out]; show _ = min _ _; omega) (fun h0 => absurd h0 (by rw [hlen9.out]; omega)) (by rw [hlen9.out]; omega) H1.out ?_; intro w6 h6 G6; obtain ⟨Z1, Z2, ⟨u6, m6⟩, f6⟩ := FIN.out w6 h6 ⟨G6.os, G6.tape, G6.output, G6.size, G6.block⟩; have Z1 := Lib.hid Z1; have Z2 := Lib.hid Z2; clear h6 G6))
                all_goals (
                  clear a1 a2 a3 a4 a5 a6 a7 a8 a9
                  go_wp2_with fail
                  go_roundw)
                all_goals first | exact ⟨i + 1, _, _, _, _, rfl, by go_num, by omega, Z1, Z2⟩ | (simp [intOf]; omega)
              · go_wp2_with fail
                go_region_law ((refine step_copy_gb rfl (.tmp 46) (.tmp 49) 29 29 rfl 22 Try.underlying29 hinf.out (some ⟨g5, q + 1 + 1, none⟩) (some ⟨g5, q + 1, none⟩) (i - (q + 1)) (c5 - (q + 1 + 1)) (i - q) (c5 - (q + 1)) (by go_simp) (by go_simp) g5 ((q + 1) + 1) cur 22 hcur.out CS (by rw [hlen9.out]; show _ = min _ _; omega) (fun h0 => ⟨rfl, ⟨g5, (q + 1), none⟩, rfl, HC.out⟩) (by rw [hlen9.out]; omega) H1.out ?_; intro w6 h6 G6; obtain ⟨Z1, Z2, ⟨u6, m6⟩, f6⟩ := FIN.out w6 h6 ⟨G6.os, G6.tape, G6.output, G6.size, G6.block⟩; have Z1 := Lib.hid Z1; have Z2 := Lib.hid Z2; clear h6 G6))
                all_goals (
                  clear a1 a2 a3 a4 a5 a6 a7 a8 a9
                  go_wp2_with fail
                  go_roundw)
                all_goals first | exact ⟨i + 1, _, _, _, _, rfl, by go_num, by omega, Z1, Z2⟩ | (simp [intOf]; omega)
      · obtain rfl : i = k := by omega
        obtain ⟨S, hS⟩ : ∃ S, srt F i = S := ⟨_, rfl⟩
        have hSb : Hid (∀ x, x < i → Bd 4000 6 (S x)) := Lib.hid (fun x hx => by
          obtain ⟨y, hy, e⟩ := srt_mem F i x hx
          rw [← hS, e]; exact hFb.out y hy)
        have T3 := HM.out
        rw [hS] at T3
        rw [hS] at hF
        generalize hw3 : wr = w3 at *
        clear hw3
        have T3 := Lib.hid T3
        have X3 := Lib.hid (B1.out.trans (HB.out.mono sz1))
        have s3 : w.heap.size ≤ w3.heap.size := X3.out.size
        clear HM HB hS T1 B1
        go_wp2_with fail
        go_loopw [8, 9] (fun p x wr => ∃ (a : Nat), x = .int .i64 a ∧ a ≤ i ∧ Hid (wr.ownsRow w3.heap.size 3 1 p (cat S a).length ((cat S a).map (Value.int .i64))) ∧ Hid (Below w3.heap.size w3 wr)) (fun _ x _ => i - (intOf x).toNat)
        case atStart => exact ⟨0, rfl, Nat.zero_le _, Lib.hid (World.ownsRow_lit w3 #[.int .i64 0] 1 (Nat.le_refl _) (by unfold maxLen; omega) rfl), Lib.hid ((Below.refl _ _).alloc (Nat.le_refl _) _)⟩
        case round =>
          rename_i p wr _
          obtain ⟨a, rfl, ha, HO, HB⟩ := hrel
          obtain ⟨Ap, cp, rfl⟩ := own_nil HO.out
          by_cases hai : a < i
          · have MH : Hid (∀ wv, Below w3.heap.size w3 wv → wv.cell? ⟨gS, a, none⟩ = some (.slice (some ⟨bS a, 0, none⟩) (S a).length (kS a))) := Lib.hid (fun wv hv => (hv.cell (p := ⟨gS, a, none⟩) (T3.out.out.lt gS rfl).2).trans (by rw [T3.out.out.cellAt a (by omega), hdv_get _ _ _ _ _ hai]))
            have hSa := hSb.out a hai
            have hcl : (cat S a).length ≤ 20001 := by have := cat_len (b := 4000) (m := 6) (by omega) a (fun x hx => hSb.out x (by omega)); omega
            have RW : Hid (∀ wv, Below w3.heap.size w3 wv → ∀ j, j < (S a).length → wv.cell? ⟨bS a, j, none⟩ = some (.int .i64 ((S a).getD j 0))) := Lib.hid (fun wv hv j hj => (hv.cell (p := ⟨bS a, j, none⟩) (row_lt (T3.out.row a hai)).2).trans (by
              rw [(T3.out.row a hai).cellAt j (by omega), List.getElem?_map, List.getElem?_eq_getElem hj]
              simp [List.getD, List.getElem?_eq_getElem hj]))
            have SE : Hid (∀ j, j < (S a).length → 0 ≤ (S a).getD j 0 ∧ (S a).getD j 0 ≤ 6) := Lib.hid (fun j hj => by
              rw [show (S a).getD j 0 = (S a)[j] by simp [List.getD, List.getElem?_eq_getElem hj]]
              exact hSa.2 _ (List.getElem_mem hj))
            have hls : (S a).length ≤ 4000 := hSa.1
            have CF := Lib.hid (catJ_full S a)
            have CS := Lib.hid (catJ_succ S a)
            have CL := Lib.hid (catJ_len S a)
            obtain ⟨ls, hlsd⟩ : ∃ ls, (S a).length = ls := ⟨_, rfl⟩
            rw [hlsd] at MH RW SE hls CF CS CL
            obtain ⟨ba, hba⟩ : ∃ ba, bS a = ba := ⟨_, rfl⟩
            rw [hba] at MH RW
            clear hSa hlsd hba
            go_wp2_with fail
            go_loopw [8, 10] (fun p x wr => ∃ (j L : Nat), x = .int .i64 j ∧ j ≤ ls ∧ L ≤ 24001 ∧ Hid ((catJ S a j).length = L) ∧ Hid (wr.ownsRow w3.heap.size 3 1 p L ((catJ S a j).map (Value.int .i64))) ∧ Hid (Below w3.heap.size w3 wr)) (fun _ x _ => ls - (intOf x).toNat)
            case atStart => exact ⟨0, (cat S a).length, rfl, Nat.zero_le _, by omega, Lib.hid (by rw [catJ_zero]), Lib.hid (by rw [catJ_zero]; exact HO.out), HB⟩
            case round =>
              rename_i p wr _
              obtain ⟨j, L, rfl, hj, hL, HL, HO2, HB2⟩ := hrel
              obtain ⟨Ap, cp, rfl⟩ := own_nil HO2.out
              have m4 := MH.out _ HB2.out
              by_cases hjl : j < ls
              · have c4 := RW.out _ HB2.out j hjl
                have e4 := SE.out j hjl
                have CS4 := Lib.hid (CS.out j hjl)
                have CL4 := CL.out j hj
                obtain ⟨z, hz⟩ : ∃ z, (S a).getD j 0 = z := ⟨_, rfl⟩
                rw [hz] at c4 e4 CS4
                have hL4 : L = (cat S a).length + j := by rw [← CL4]; exact HL.out.symm
                have hL5 : L ≤ 24000 := by omega
                clear hz CL4 hL4
                go_wp2_with (at_builtin; refine wpList_append_lies _ rfl _ _ 22 rfl w3.heap.size 3 i0 (.int .i64 0) 1 8 Try.underlying22 hi0 hz0 hz1 hz2 rfl (by decide) _ L _ rfl (HO2.out.alloc _) _ 1 1 [.int .i64 (z + 1)] rfl rfl (cell_one_new _ _ _) (by intro u hu; simp at hu; subst hu; rfl) (by decide) (by unfold maxLen; omega) (by omega) (by have := HB2.out.size; rw [asz]; omega) _ rfl ?_)
                intro g5 c5 w5 O5 G5 _ _
                have B5 := Lib.hid ((HB2.out.alloc (by have := HB2.out.size; omega) _).grown G5 (by have := HB2.out.size; rw [asz]; omega) (fun q hq => (HO2.out.lt q hq).1))
                have O5 := Lib.hid (show w5.ownsRow w3.heap.size 3 1 (.slice (some ⟨g5, 0, none⟩) (L + 1) c5) (L + 1) ((catJ S a (j + 1)).map (Value.int .i64)) by rw [CS4.out]; simpa using O5)
                have HL5 : Hid ((catJ S a (j + 1)).length = L + 1) := Lib.hid (by rw [CS4.out, List.length_append, HL.out]; rfl)
                clear G5
                go_wp2_with fail
                go_roundw
                case rel => exact ⟨j + 1, L + 1, by go_num, by omega, by omega, HL5, O5, B5⟩
                case measure => simp [intOf]; omega
              · obtain rfl : j = ls := by omega
                have e5 := CF.out j (Nat.le_refl _)
                have O6 : Hid (wr.ownsRow w3.heap.size 3 1 (.slice Ap L cp) (cat S (a + 1)).length ((cat S (a + 1)).map (Value.int .i64))) := Lib.hid (by rw [← e5, HL.out]; exact HO2.out)
                clear e5
                go_wp2_with fail
                go_roundw
                case rel => exact ⟨a + 1, by go_num, by omega, O6, HB2⟩
                case measure => simp [intOf]; omega
          · obtain rfl : a = i := by omega
            have hcp := cat_pos S a
            obtain ⟨gp, rfl⟩ := own_form HO.out hcp
            have R9 : Hid (FrmP w wr (frm (m + 1) zs) (.returned (.slice (some ⟨gp, 0, none⟩) (cat S a).length cp))) := Lib.hid (by rw [hF.out]; exact ⟨gp, cp, rfl, own_lower HO.out s3, X3.out.trans (HB.out.mono s3)⟩)
            go_wp2_with fail
            go_ret
            exact R9.out
end Go.Proofs.Ytojcnncaccnpeaa
