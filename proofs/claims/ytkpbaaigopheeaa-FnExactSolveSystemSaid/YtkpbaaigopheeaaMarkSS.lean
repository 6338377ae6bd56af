/- The laws' marks on a slice of slices of integers. -/
import Derived.Test.YtkpbaaigopheeaaSS
import Derived.Test.YtkpbaaigopheeaaMark
namespace Go.Proofs.Ytkpbaaigopheeaa
open Go.RowKit Go.PlainNum

/-- only blocks from s up to T may have turned -/
structure Band (s T : Nat) (w w' : World) : Prop where
  os : w'.os = w.os
  tape : w'.tape = w.tape
  output : w'.output = w.output
  size : w.heap.size ≤ w'.heap.size
  block : ∀ k, (k < s ∨ T ≤ k) → k < w.heap.size → w'.heap[k]? = w.heap[k]?
theorem Band.refl (s T : Nat) (w : World) : Band s T w w := ⟨rfl, rfl, rfl, Nat.le_refl _, fun _ _ _ => rfl⟩
theorem Band.grown {s T : Nat} {w w' w2 : World} {row : Option Nat} (h : Band s T w w') (g : w'.grownBy w2 row) (hr : ∀ k, row = some k → s ≤ k ∧ k < T) : Band s T w w2 :=
  ⟨g.os.trans h.os, g.tape.trans h.tape, g.output.trans h.output, Nat.le_trans h.size g.size, fun k hk hlt => (g.block k (Nat.lt_of_lt_of_le hlt h.size) (fun e => by have := hr k e.symm; omega)).trans (h.block k hk hlt)⟩
theorem Band.below {s T : Nat} {w w' : World} (h : Band s T w w') (hs : s ≤ w.heap.size) : Below s w w' := ⟨h.os, h.tape, h.output, h.size, fun k hk => h.block k (Or.inl hk) (by omega)⟩
theorem own_band {s T : Nat} {w w' : World} {b n : Nat} {e : TypeId} {v : Value} {xs : List Value} (h : w.ownsRow b e 1 v n xs) (hb : Band s T w w') (hT : ∀ g, v.ownBlock = some g → T ≤ g) : w'.ownsRow b e 1 v n xs := by
  refine ⟨h.1, ?_⟩
  rcases h.2 with h2 | ⟨g, cap, cur, hv, hg1, hg2, r⟩
  · exact Or.inl h2
  · exact Or.inr ⟨g, cap, cur, hv, hg1, (hb.block g (Or.inr (hT g (by rw [hv]; rfl))) (lt_of_block hg2)).trans hg2, r⟩

/-- a table while its rows are marked: those from i on still stand -/
structure Mks (w : World) (base : Nat) (g n i : Nat) (bs : Nat → Nat) (Z : Nat → List Int) : Prop where
  out : w.ownsRow base 25 1 (.slice (some ⟨g, 0, none⟩) n n) n (hds n n bs Z)
  row : ∀ j, i ≤ j → j < n → w.ownsRow base 3 1 (.slice (some ⟨bs j, 0, none⟩) (Z j).length (Z j).length) (Z j).length ((Z j).map (Value.int .i64))
theorem tot_le (Z : Nat → List Int) : ∀ a b, a ≤ b → tot Z a ≤ tot Z b := by
  intro a b h
  induction b with
  | zero => have : a = 0 := by omega
            subst this; exact Nat.le_refl _
  | succ b ih =>
    by_cases h2 : a = b + 1
    · subst h2; exact Nat.le_refl _
    · have := ih (by omega); rw [tot_succ]; omega

set_option maxRecDepth 100000 in
set_option maxHeartbeats 4000000 in
theorem markIntSS_any (base T g n : Nat) (bs : Nat → Nat) (Z : Nat → List Int) (w : World) (h : Tow w base (.slice (some ⟨g, 0, none⟩) n n) n n bs Z) (hT : ∀ i, i < n → bs i < T) (hn : n ≤ 1048576) (htot : tot Z n ≤ 1048576) :
    Calls Try.prog 19 #[.slice (some ⟨g, 0, none⟩) n n, .int .i64 1] w fun e w' => e = .returned (.int .i64 (1 + (tot Z n : Int))) ∧ Band base T w w' := by
  have H0 := Lib.hid (show Mks w base g n 0 bs Z from ⟨h.out, fun j _ hj => h.row j hj⟩)
  have AP := Lib.hid h.apart
  have hT := Lib.hid hT
  clear h
  go_enter Try.func19, Try.ntmps19
  go_wp2_with fail
  go_loopw [1, 5] (fun c x wr => ∃ i : Nat, c = .int .i64 (1 + (tot Z i : Int)) ∧ x = .int .i64 i ∧ i ≤ n ∧ Hid (Mks wr base g n i bs Z) ∧ Hid (Band base T w wr)) (fun _ x _ => n - (intOf x).toNat)
  case atStart => exact ⟨0, rfl, rfl, Nat.zero_le _, H0, Lib.hid (Band.refl _ _ _)⟩
  case round =>
    rename_i wr _
    obtain ⟨i, rfl, rfl, hi, HM, HB⟩ := hrel
    by_cases hlt : i < n
    · have m1 : wr.cell? ⟨g, i, none⟩ = some (.slice (some ⟨bs i, 0, none⟩) (Z i).length (Z i).length) := by rw [HM.out.out.cellAt i (by omega), hds_get _ _ _ _ _ hlt hlt]
      have O1 := Lib.hid (HM.out.row i (Nat.le_refl _) hlt)
      have ht1 := tot_le Z (i + 1) n (by omega)
      have hts := tot_succ Z i
      have NX := Lib.hid (fun w' (gb : wr.grownBy w' (Value.slice (some ⟨bs i, 0, none⟩) (Z i).length (Z i).length).ownBlock) => (⟨⟨own_grown HM.out.out gb (fun q hq => own_tags HM.out.out O1.out (by decide) q hq), fun j hj hjn => own_grown (HM.out.row j (by omega) hjn) gb (fun q hq => by
          simp only [Value.ownBlock, Option.some.injEq] at hq ⊢
          subst hq
          exact fun e => AP.out j i hjn hlt (by omega) (Option.some.inj e).symm)⟩, HB.out.grown gb (fun q hq => by
          simp only [Value.ownBlock, Option.some.injEq] at hq
          subst hq
          exact ⟨(O1.out.lt _ rfl).1, hT.out i hlt⟩)⟩ : Mks w' base g n (i + 1) bs Z ∧ Band base T w w'))
      obtain ⟨y, hy⟩ : ∃ y, (Z i).length = y := ⟨_, rfl⟩
      obtain ⟨t, ht⟩ : ∃ t, tot Z i = t := ⟨_, rfl⟩
      rw [hy] at m1 O1 hts NX
      rw [ht] at hts
      have hts := Lib.hid hts
      have bt : t + y ≤ 1048576 := by have := hts.out; omega
      have ht := Lib.hid ht
      rw [ht.out]
      clear hy ht1
      go_wp2_with fail
      refine (markIntS_any base _ y y (Z i) _ _ O1.out (by omega) (by omega) (by omega)).mono ?_
      rintro e w2 ⟨rfl, -, G2⟩
      obtain ⟨Y1, Y2⟩ := NX.out w2 G2
      have Y1 := Lib.hid Y1
      have Y2 := Lib.hid Y2
      clear G2
      go_wp2_with fail
      go_roundw
      case rel => exact ⟨i + 1, by rw [hts.out]; go_num, by go_num, by omega, Y1, Y2⟩
      case measure => simp [intOf]; omega
    · obtain rfl : i = n := by omega
      go_wp2_with fail
      go_ret
      exact ⟨rfl, HB.out⟩
end Go.Proofs.Ytkpbaaigopheeaa
