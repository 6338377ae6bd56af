/- The contract of the program's greatest list of levels. -/
import Derived.Test.YtojcnncaccnpeaaParts
import Derived.Test.YtojcnncaccnpeaaSortF
namespace Go.Proofs.Ytojcnncaccnpeaa
open Go.RowKit Go.PlainNum

/-- what the reckoning leaves -/
def FrmP (w w' : World) (l : List Int) (e : Ending) : Prop :=
  ∃ g c, e = .returned (.slice (some ⟨g, 0, none⟩) l.length c) ∧ w'.ownsRow w.heap.size 3 1 (.slice (some ⟨g, 0, none⟩) l.length c) l.length (l.map (Value.int .i64)) ∧ Below w.heap.size w w'

set_option maxRecDepth 100000 in
set_option maxHeartbeats 8000000 in
theorem sorted_any : ∀ m, m ≤ 6 → ∀ (B : Nat) (A : Option Addr) (n c : Nat) (zs : List Int) (w : World), Rd w B A n zs → B ≤ w.heap.size → n ≤ 6 → n ≤ c → Lv zs → n ≤ m →
    Calls Try.prog 13 #[.slice A n c, .int .i64 1] w fun e w' => FrmP w w' (frm m zs) e := by
  intro m
  induction m with
  | zero => intro _ B A n c zs w h _ _ _ hlv hn; have := hlv.pos; have := h.1; omega
  | succ m ih =>
    intro hm6 B A n c zs w h hB hn6 hnc hlv hnm
    have hl := h.1
    have hn1 : 0 < n := by have := hlv.pos; omega
    obtain ⟨i0, hi0, hz0, hz1, hz2⟩ := info_parts infoInt
    obtain ⟨lb, lo, rfl, hlb, hc⟩ := h.2 hn1
    have c0 := hc 0 hn1
    rw [Nat.add_zero, hlv.root] at c0
    obtain ⟨⟨k, R⟩, hkR⟩ : ∃ s, prts zs (n - 1) = s := ⟨_, rfl⟩
    have PK := prt_ok hlv (n - 1) (by omega)
    rw [hkR] at PK
    have hk : k ≤ n - 1 := PK.le
    have hRlv : Hid (∀ x, x < k → Lv (R x)) := Lib.hid PK.lv
    have hRlen : Hid (∀ x, x < k → (R x).length ≤ n - 1) := Lib.hid PK.len
    have hF : Hid (frm (m + 1) zs = cat (srt (fun i => frm m (R i)) k) k) := Lib.hid (frm_succ (by rw [hl]; exact hkR))
    obtain ⟨F, hFd⟩ : ∃ F : Nat → List Int, (fun i => frm m (R i)) = F := ⟨_, rfl⟩
    have hFb : Hid (∀ x, x < k → Bd 4000 6 (F x)) := Lib.hid (fun x hx => by
      rw [← hFd]
      have q := frm_bd m (R x) (hRlv.out x hx) (by have := hRlen.out x hx; omega)
      have b5 := bnd_5 m (by omega)
      exact ⟨Nat.le_trans q.1 b5, fun z hz => by have := q.2 z hz; omega⟩)
    have IH : Hid (∀ x, x < k → ∀ (B : Nat) (b cc : Nat) (w : World), Rd w B (some ⟨b, 0, none⟩) (R x).length (R x) → B ≤ w.heap.size → (R x).length ≤ cc → Calls Try.prog 13 #[.slice (some ⟨b, 0, none⟩) (R x).length cc, .int .i64 1] w fun e w' => FrmP w w' (F x) e) := Lib.hid (fun x hx B b cc w h1 h2 h3 => by
      rw [← hFd]
      have := hRlen.out x hx
      exact ih (by omega) B _ _ cc (R x) w h1 h2 (by omega) h3 (hRlv.out x hx) (by omega))
    rw [hFd] at hF
    have H := Lib.hid h
    have hlv := Lib.hid hlv
    have hkR := Lib.hid hkR
    have c0 := Lib.hid c0
    clear ih h hc hFd PK
    go_enter Try.func13, Try.ntmps13
    go_wp2_with fail
    refine (branch_any B _ n c k zs R w H.out hB hn6 hnc hlv.out hkR.out).mono ?_
    rintro e w1 ⟨g, cap, bs1, ks1, rfl, T1, B1⟩
    have T1 := Lib.hid T1
    have B1 := Lib.hid B1
    go_wp2_with fail
    go_loopw [17] (fun x wr => ∃ (i : Nat) (bs ks : Nat → Nat), x = .int .i64 i ∧ i ≤ k ∧ Hid (Tob wr w.heap.size (.slice (some ⟨g, 0, none⟩) k cap) k bs ks (mixF F R i)) ∧ Hid (Below w.heap.size w wr)) (fun x _ => k - (intOf x).toNat)
    case atStart => exact ⟨0, bs1, ks1, rfl, Nat.zero_le _, Lib.hid (by rw [mixF_zero]; exact T1.out), B1⟩
    case round =>
      obtain ⟨i, bs, ks, rfl, hi, HM, HB⟩ := hrel
      by_cases hlt : i < k
      · have szr : w.heap.size ≤ wr.heap.size := HB.out.size
        have hgl := HM.out.out.lt g rfl
        have O1 := HM.out.row i hlt
        rw [mixF_at] at O1
        have m1 : wr.cell? ⟨g, i, none⟩ = some (.slice (some ⟨bs i, 0, none⟩) (R i).length (ks i)) := by rw [HM.out.out.cellAt i (by omega), hdv_get _ _ _ _ _ hlt, mixF_at]
        have CI := Lib.hid (IH.out i hlt wr.heap.size (bs i) (ks i) wr (own_rd O1) (Nat.le_refl _) (own_le O1))
        have PT := Lib.hid (fun w2 (g2 c2 : Nat) (b2 : Below wr.heap.size wr w2) (O2 : World.ownsRow w2 wr.heap.size 3 1 (.slice (some ⟨g2, 0, none⟩) (F i).length c2) (F i).length ((F i).map (Value.int .i64))) =>
          (⟨by have X := (HM.out.below b2).put hlt (own_lower O2 szr) (fun j hj e => by have h1 := (row_lt (HM.out.row j hj)).2; have h2 := (row_lt O2).1; omega); rw [mixF_succ] at X; exact X,
            (HB.out.trans (b2.mono szr)).setCell (p := ⟨g, i, none⟩) hgl.1 _, (b2.cell (p := ⟨g, i, none⟩) hgl.2).trans m1, (HM.out.below b2).out.frozenAt i⟩ :
            Tob (w2.setCell ⟨g, i, none⟩ (.slice (some ⟨g2, 0, none⟩) (F i).length c2)) w.heap.size (.slice (some ⟨g, 0, none⟩) k cap) k (stf bs i g2) (stf ks i c2) (mixF F R (i + 1)) ∧ Below w.heap.size w (w2.setCell ⟨g, i, none⟩ (.slice (some ⟨g2, 0, none⟩) (F i).length c2)) ∧
            w2.cell? ⟨g, i, none⟩ = some (.slice (some ⟨bs i, 0, none⟩) (R i).length (ks i)) ∧ w2.frozen? ⟨g, i, none⟩ = false))
        obtain ⟨b1, hb1⟩ : ∃ b1, bs i = b1 := ⟨_, rfl⟩
        obtain ⟨k1, hk1⟩ : ∃ k1, ks i = k1 := ⟨_, rfl⟩
        obtain ⟨n1, hn1'⟩ : ∃ n1, (R i).length = n1 := ⟨_, rfl⟩
        rw [hb1, hk1, hn1'] at m1 CI PT
        clear O1 hb1 hk1 hn1'
        go_wp2_with fail
        refine CI.out.mono ?_
        rintro e w2 ⟨g2, c2, rfl, O2, B2⟩
        obtain ⟨Z1, Z2, m2, f2⟩ := PT.out w2 g2 c2 B2 O2
        have Z1 := Lib.hid Z1
        have Z2 := Lib.hid Z2
        obtain ⟨n2, hn2'⟩ : ∃ n2, (F i).length = n2 := ⟨_, rfl⟩
        rw [hn2'] at Z1 Z2
        rw [hn2']
        clear O2 B2 PT m1 hn2'
        go_wp2_with fail
        go_roundw
        case rel => exact ⟨i + 1, _, _, by go_num, by omega, Z1, Z2⟩
        case measure => simp [intOf]; omega
      · obtain rfl : i = k := by omega
        have TF := Lib.hid (HM.out.congr (R' := F) (fun x hx => mixF_lt F R i x hx))
        go_wp2_with fail
        refine (sortFunc_any w.heap.size g cap i bs ks F wr TF.out (by omega) (fun x hx => (hFb.out x hx).1)).mono ?_
        rintro e w3 ⟨rfl, ⟨bs3, ks3, T3⟩, B3⟩
        obtain ⟨S, hS⟩ : ∃ S, srt F i = S := ⟨_, rfl⟩
        have hSb : Hid (∀ x, x < i → Bd 4000 6 (S x)) := Lib.hid (fun x hx => by
          obtain ⟨y, hy, e⟩ := srt_mem F i x hx
          rw [← hS, e]; exact hFb.out y hy)
        rw [hS] at T3
        rw [hS] at hF
        have T3 := Lib.hid T3
        have X3 := Lib.hid (HB.out.trans B3)
        have s3 : w.heap.size ≤ w3.heap.size := X3.out.size
        have c3 : w3.cell? ⟨lb, lo, none⟩ = some (.int .i64 0) := (X3.out.cell (p := ⟨lb, lo, none⟩) (show lb < w.heap.size by omega)).trans c0.out
        clear HM HB TF B3 hS T1 B1
        go_wp2_with fail
        go_loopw [7, 38] (fun p x wr => ∃ (a : Nat), x = .int .i64 a ∧ a ≤ i ∧ Hid (wr.ownsRow w3.heap.size 3 1 p (cat S a).length ((cat S a).map (Value.int .i64))) ∧ Hid (Below w3.heap.size w3 wr)) (fun _ x _ => i - (intOf x).toNat)
        case atStart => exact ⟨0, rfl, Nat.zero_le _, Lib.hid (World.ownsRow_lit w3 #[.int .i64 0] 1 (Nat.le_refl _) (by unfold maxLen; omega) rfl), Lib.hid ((Below.refl _ _).alloc (Nat.le_refl _) _)⟩
        case round =>
          rename_i p wr _
          obtain ⟨a, rfl, ha, HO, HB⟩ := hrel
          obtain ⟨Ap, cp, rfl⟩ := own_nil HO.out
          by_cases hai : a < i
          · have m3 : wr.cell? ⟨g, a, none⟩ = some (.slice (some ⟨bs3 a, 0, none⟩) (S a).length (ks3 a)) := (HB.out.cell (p := ⟨g, a, none⟩) (T3.out.out.lt g rfl).2).trans (by rw [T3.out.out.cellAt a (by omega), hdv_get _ _ _ _ _ hai])
            have hSa := hSb.out a hai
            have hcl : (cat S a).length ≤ 20001 := by have := cat_len (b := 4000) (m := 6) (by omega) a (fun x hx => hSb.out x (by omega)); omega
            have RW : Hid (∀ wv, Below w3.heap.size w3 wv → ∀ j, j < (S a).length → wv.cell? ⟨bs3 a, j, none⟩ = some (.int .i64 ((S a).getD j 0))) := Lib.hid (fun wv hv j hj => (hv.cell (p := ⟨bs3 a, j, none⟩) (row_lt (T3.out.row a hai)).2).trans (by
              rw [(T3.out.row a hai).cellAt j (by omega), List.getElem?_map, List.getElem?_eq_getElem hj]
              simp [List.getD, List.getElem?_eq_getElem hj]))
            have SE : Hid (∀ j, j < (S a).length → 0 ≤ (S a).getD j 0 ∧ (S a).getD j 0 ≤ 6) := Lib.hid (fun j hj => by
              rw [show (S a).getD j 0 = (S a)[j] by simp [List.getD, List.getElem?_eq_getElem hj]]
              exact hSa.2 _ (List.getElem_mem hj))
            have hls : (S a).length ≤ 4000 := hSa.1
            have CF := Lib.hid (catJ_full S a)
            have CS := Lib.hid (catJ_succ S a)
            have CL := Lib.hid (catJ_len S a)
            obtain ⟨ls, hlsd⟩ : ∃ ls, (S a).length = ls := ⟨_, rfl⟩
            rw [hlsd] at m3 RW SE hls CF CS CL
            obtain ⟨ba, hba⟩ : ∃ ba, bs3 a = ba := ⟨_, rfl⟩
            rw [hba] at m3 RW
            clear hSa hlsd hba
            go_wp2_with fail
            go_loopw [7, 44] (fun p x wr => ∃ (j L : Nat), x = .int .i64 j ∧ j ≤ ls ∧ L ≤ 24001 ∧ Hid ((catJ S a j).length = L) ∧ Hid (wr.ownsRow w3.heap.size 3 1 p L ((catJ S a j).map (Value.int .i64))) ∧ Hid (Below w3.heap.size w3 wr)) (fun _ x _ => ls - (intOf x).toNat)
            case atStart => exact ⟨0, (cat S a).length, rfl, Nat.zero_le _, by omega, Lib.hid (by rw [catJ_zero]), Lib.hid (by rw [catJ_zero]; exact HO.out), HB⟩
            case round =>
              rename_i p wr _
              obtain ⟨j, L, rfl, hj, hL, HL, HO2, HB2⟩ := hrel
              obtain ⟨Ap, cp, rfl⟩ := own_nil HO2.out
              by_cases hjl : j < ls
              · have c4 := RW.out _ HB2.out j hjl
                have e4 := SE.out j hjl
                have CS4 := Lib.hid (CS.out j hjl)
                have CL4 := CL.out j hj
                obtain ⟨z, hz⟩ : ∃ z, (S a).getD j 0 = z := ⟨_, rfl⟩
                rw [hz] at c4 e4 CS4
                have hL4 : L = (cat S a).length + j := by rw [← CL4]; exact HL.out.symm
                have hL5 : L ≤ 24000 := by omega
                clear hz CL4 hL4
                go_wp2_with (at_builtin; refine wpList_append_lies _ rfl _ _ 22 rfl w3.heap.size 3 i0 (.int .i64 0) 1 8 Try.underlying22 hi0 hz0 hz1 hz2 rfl (by decide) _ L _ rfl (HO2.out.alloc _) _ 1 1 [.int .i64 (z + 1)] rfl rfl (cell_one_new _ _ _) (by intro u hu; simp at hu; subst hu; rfl) (by decide) (by unfold maxLen; omega) (by omega) (by have := HB2.out.size; rw [asz]; omega) _ rfl ?_)
                intro g5 c5 w5 O5 G5 _ _
                have B5 := Lib.hid ((HB2.out.alloc (by have := HB2.out.size; omega) _).grown G5 (by have := HB2.out.size; rw [asz]; omega) (fun q hq => (HO2.out.lt q hq).1))
                have O5 := Lib.hid (show w5.ownsRow w3.heap.size 3 1 (.slice (some ⟨g5, 0, none⟩) (L + 1) c5) (L + 1) ((catJ S a (j + 1)).map (Value.int .i64)) by rw [CS4.out]; simpa using O5)
                have HL5 : Hid ((catJ S a (j + 1)).length = L + 1) := Lib.hid (by rw [CS4.out, List.length_append, HL.out]; rfl)
                clear G5
                go_wp2_with fail
                go_roundw
                case rel => exact ⟨j + 1, L + 1, by go_num, by omega, by omega, HL5, O5, B5⟩
                case measure => simp [intOf]; omega
              · obtain rfl : j = ls := by omega
                have e5 := CF.out j (Nat.le_refl _)
                have O6 : Hid (wr.ownsRow w3.heap.size 3 1 (.slice Ap L cp) (cat S (a + 1)).length ((cat S (a + 1)).map (Value.int .i64))) := Lib.hid (by rw [← e5, HL.out]; exact HO2.out)
                clear e5
                go_wp2_with fail
                go_roundw
                case rel => exact ⟨a + 1, by go_num, by omega, O6, HB2⟩
                case measure => simp [intOf]; omega
          · obtain rfl : a = i := by omega
            have hcp := cat_pos S a
            obtain ⟨gp, rfl⟩ := own_form HO.out hcp
            have R9 : Hid (FrmP w wr (frm (m + 1) zs) (.returned (.slice (some ⟨gp, 0, none⟩) (cat S a).length cp))) := Lib.hid (by rw [hF.out]; exact ⟨gp, cp, rfl, own_lower HO.out s3, X3.out.trans (HB.out.mono s3)⟩)
            go_wp2_with fail
            go_ret
            exact R9.out
end Go.Proofs.Ytojcnncaccnpeaa
