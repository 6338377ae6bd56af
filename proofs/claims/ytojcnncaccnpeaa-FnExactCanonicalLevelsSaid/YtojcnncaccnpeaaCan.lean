/- The contracts of CanonicalLevels, of the program and of the reference. -/
import Derived.Test.YtojcnncaccnpeaaSForm
import Derived.Test.YtojcnncaccnpeaaLevels
namespace Go.Proofs.Ytojcnncaccnpeaa
open Go.RowKit Go.PlainNum

/-- what CanonicalLevels gives -/
def canL (zs : List Int) : List Int := if isLev zs = true then frm 6 zs else []
theorem canL_no {zs : List Int} (h : isLev zs = false) : canL zs = [] := if_neg (by rw [h]; simp)
theorem canL_yes {zs : List Int} (h : isLev zs = true) : canL zs = frm 6 zs := if_pos h
theorem canL_len (zs : List Int) : (canL zs).length ≤ 20000 := by
  cases h : isLev zs
  · rw [canL_no h]; simp
  · rw [canL_yes h]
    have q := (frm_bd 6 zs (lv_of zs h) (isLev_spec zs h).2.1).1
    have b : bnd 6 ≤ 20000 := by decide
    omega
def CanP (w w' : World) (X : List Int) (L : Nat) (e : Ending) : Prop :=
  ∃ A c, e = .returned (.slice A L c) ∧ w'.ownsRow w.heap.size 3 1 (.slice A L c) L (X.map (Value.int .i64)) ∧ Below w.heap.size w w'

theorem isLevels_eq (A : Option Addr) (n c : Nat) (zs : List Int) (r : Bool) (hr : isLev zs = r) (w : World) (h : Rd w w.heap.size A n zs) (hn : (n : Int) ≤ 2000000) :
    Calls Try.prog 12 #[.slice A n c] w fun e w' => e = .returned (.bool r) ∧ Below w.heap.size w w' := by
  subst hr; exact isLevels_any A n c zs w h hn

theorem can_any (A : Option Addr) (n c : Nat) (zs X : List Int) (L : Nat) (hX : canL zs = X) (hL : X.length = L) (w : World) (h : Rd w w.heap.size A n zs) (hn : (n : Int) ≤ 2000000) (hnc : n ≤ c) :
    Calls Try.prog 6 #[.slice A n c] w fun e w' => CanP w w' X L e := by
  subst hL
  subst hX
  have H := Lib.hid h
  cases hr : isLev zs with
  | false =>
    have R := Lib.hid (canL_no hr)
    have hr := Lib.hid hr
    go_enter Try.func6, Try.ntmps6
    go_wp2_with fail
    refine (isLevels_eq A n c zs false hr.out _ H.out hn).mono ?_
    rintro e w1 ⟨rfl, B1⟩
    have R9 : Hid (CanP w w1 (canL zs) (canL zs).length (.returned (.slice none 0 0))) := Lib.hid (by rw [R.out]; exact ⟨none, 0, rfl, World.ownsRow_nil _ _ _ _, B1⟩)
    go_wp2_with fail
    go_ret
    exact R9.out
  | true =>
    have R := Lib.hid (canL_yes hr)
    have hlv := Lib.hid (lv_of zs hr)
    have h6 := (isLev_spec zs hr).2.1
    have hl := h.1
    have hr := Lib.hid hr
    go_enter Try.func6, Try.ntmps6
    go_wp2_with fail
    refine (isLevels_eq A n c zs true hr.out _ H.out hn).mono ?_
    rintro e w1 ⟨rfl, B1⟩
    go_wp2_with fail
    refine (sorted_any 6 (Nat.le_refl _) w.heap.size A n c zs w1 (H.out.below B1 (Nat.le_refl _)) B1.size (by omega) hnc hlv.out (by omega)).mono ?_
    rintro e w2 ⟨g, c2, rfl, O2, B2⟩
    have R9 : Hid (CanP w w2 (canL zs) (canL zs).length (.returned (.slice (some ⟨g, 0, none⟩) (frm 6 zs).length c2))) := Lib.hid (by rw [R.out]; exact ⟨_, c2, rfl, own_lower O2 B1.size, B1.trans (B2.mono B1.size)⟩)
    go_wp2_with fail
    go_ret
    exact R9.out

theorem scan_any (A : Option Addr) (n c : Nat) (zs X : List Int) (L : Nat) (hX : canL zs = X) (hL : X.length = L) (w : World) (h : Rd w w.heap.size A n zs) (hn : (n : Int) ≤ 2000000) :
    Calls Try.prog 4 #[.slice A n c] w fun e w' => CanP w w' X L e := by
  subst hL
  subst hX
  have H := Lib.hid h
  have CS := Lib.hid (sisLevels_any A n c zs w h hn)
  cases hr : isLev zs with
  | false =>
    rw [hr] at CS
    have R := Lib.hid (canL_no hr)
    clear hr
    go_enter Try.func4, Try.ntmps4
    go_wp2_with fail
    refine CS.out.mono ?_
    rintro e w1 ⟨rfl, B1⟩
    have R9 : Hid (CanP w w1 (canL zs) (canL zs).length (.returned (.slice none 0 0))) := Lib.hid (by rw [R.out]; exact ⟨none, 0, rfl, World.ownsRow_nil _ _ _ _, B1⟩)
    go_wp2_with fail
    go_ret
    exact R9.out
  | true =>
    rw [hr] at CS
    have R := Lib.hid (canL_yes hr)
    have hlv := Lib.hid (lv_of zs hr)
    have h6 := (isLev_spec zs hr).2.1
    have hl := h.1
    clear hr
    go_enter Try.func4, Try.ntmps4
    go_wp2_with fail
    refine CS.out.mono ?_
    rintro e w1 ⟨rfl, B1⟩
    go_wp2_with fail
    refine (sform_any 6 (Nat.le_refl _) w.heap.size A n c zs w1 (H.out.below B1 (Nat.le_refl _)) B1.size (by omega) hlv.out (by omega)).mono ?_
    rintro e w2 ⟨g, c2, rfl, O2, B2⟩
    have R9 : Hid (CanP w w2 (canL zs) (canL zs).length (.returned (.slice (some ⟨g, 0, none⟩) (frm 6 zs).length c2))) := Lib.hid (by rw [R.out]; exact ⟨_, c2, rfl, own_lower O2 B1.size, B1.trans (B2.mono B1.size)⟩)
    go_wp2_with fail
    go_ret
    exact R9.out
end Go.Proofs.Ytojcnncaccnpeaa
