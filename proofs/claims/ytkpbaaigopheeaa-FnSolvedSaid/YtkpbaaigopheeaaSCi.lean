/- The contract of the reference's CountIndependent. -/
import Derived.Test.YtkpbaaigopheeaaCi
import Derived.Deep.RegionWith
namespace Go.Proofs.Ytkpbaaigopheeaa
open Go.RowKit Go.PlainNum

set_option maxRecDepth 100000 in
set_option maxHeartbeats 4000000 in
theorem sci_any (B : Nat) (A : Option Addr) (n c : Nat) (Z : Nat → List Int) (w : World) (h : RdT w B A n Z) (hB : B ≤ w.heap.size) (hL : ∀ j, j < n → ((Z j).length : Int) ≤ 4000000) (hn : (n : Int) ≤ 4000000) :
    Calls Try.prog 13 #[.slice A n c] w fun e w' => e = .returned (.int .i64 (ciOf n Z)) ∧ Below w.heap.size w w' := by
  obtain ⟨s, hs⟩ : ∃ s, sysOk n Z = s := ⟨_, rfl⟩
  have H := Lib.hid h
  have HS := Lib.hid hs
  have HL := Lib.hid hL
  cases s with
  | false =>
    have R := Lib.hid (ciOf_no hs)
    clear h hs hL
    go_enter Try.func13, Try.ntmps13
    go_wp2_with (go_at_call 32; refine (l1Rows_eq B _ _ _ Z _ HS.out _ H.out HL.out (by omega)).mono ?_; rintro e w' ⟨rfl, m, rfl⟩)
    go_ret
    exact ⟨by rw [R.out]; rfl, bel_drewN (Below.refl _ _) _⟩
  | true =>
    obtain ⟨hn1, hn2, hq⟩ := sysOk_is hs
    obtain ⟨W, hW0⟩ : ∃ W, (Z 0).length = W := ⟨_, rfl⟩
    have hW1 : 0 < W := by have := (hq 0 hn1).2.1; omega
    have hW2 : W ≤ 40 := by have := (hq 0 hn1).2.2.1; omega
    have hW : Hid (∀ j, j < n → (Z j).length = W) := Lib.hid (fun j hj => by rw [(hq j hj).1, hW0])
    have NM : Hid (Nm n W (tabM Z)) := Lib.hid (hW0 ▸ nm_tab hs)
    obtain ⟨l, hl⟩ : ∃ l, (gau n W (tabM Z) W).1.length = l := ⟨_, rfl⟩
    have R : Hid (ciOf n Z = (l : Int)) := Lib.hid (by rw [ciOf_yes hs hW0, hl])
    have hl := Lib.hid hl
    obtain ⟨b, off, rfl, hb, hc⟩ := h hn1
    obtain ⟨X0, k0, c0, -⟩ := hc 0 hn1
    rw [Nat.add_zero, hW0] at c0
    clear h hq hs hL hW0 hc
    go_enter Try.func13, Try.ntmps13
    go_wp2_with (go_at_call 32; refine (l1Rows_eq B _ _ _ Z _ HS.out _ H.out HL.out (by omega)).mono ?_; rintro e w' ⟨rfl, m, rfl⟩)
    have H' := Lib.hid (show RdT (w.drewN m).drew B (some ⟨b, off, none⟩) n Z from H.out)
    have hB' : B ≤ (w.drewN m).drew.heap.size := hB
    have BW := Lib.hid (show Below w.heap.size w (w.drewN m).drew from (bel_drewN (Below.refl _ _) m).drew)
    go_region_with (first
      | (go_at_call 34; refine (cpy_any B b off n c W Z (.slice X0 W k0) _ H'.out hB' hb hn1 hn2 hW.out hW1 hW2 c0).mono ?_; rintro e w1 ⟨g, cap, bs, ks, rfl, HT, hb1, c1⟩)
      | (go_at_call 33; refine (sred_len g n _ W W (w.drewN m).drew.heap.size l bs ks (tabM Z) hl.out _ HT.out NM.out hn1 (by omega) (by omega) (Nat.le_refl _)).mono ?_; rintro e w' ⟨A9, c9, rfl, hb9⟩))
    all_goals (
      go_wp2_with fail
      go_ret
      exact ⟨by rw [R.out]; rfl, BW.out.trans (hb1.trans hb9)⟩)
end Go.Proofs.Ytkpbaaigopheeaa
