/- What is kept of owned rows and of readings. -/
import Derived.Test.YtojcnncaccnpeaaMark
namespace Go.Proofs.Ytojcnncaccnpeaa
open Go.RowKit

theorem own_below {w w' : World} {b n : Nat} {e : TypeId} {v : Value} {xs : List Value} (h : w.ownsRow b e 1 v n xs) (hb : Below w.heap.size w w') : w'.ownsRow b e 1 v n xs :=
  h.kept (row := none) ⟨hb.os, hb.tape, hb.output, hb.size, fun k hk _ => hb.block k hk⟩ (by rcases h.2 with ⟨rfl, _⟩ | ⟨g, _, _, rfl, _⟩ <;> simp [Value.ownBlock])
theorem own_grown {w w' : World} {b n : Nat} {e : TypeId} {v : Value} {xs : List Value} {row : Option Nat} (h : w.ownsRow b e 1 v n xs) (hg : w.grownBy w' row) (hr : ∀ g, v.ownBlock = some g → row ≠ some g) : w'.ownsRow b e 1 v n xs := by
  refine ⟨h.1, ?_⟩
  rcases h.2 with h2 | ⟨g, cap, cur, hv, hg1, hg2, r⟩
  · exact Or.inl h2
  · exact Or.inr ⟨g, cap, cur, hv, hg1, (hg.block g (lt_of_block hg2) (fun e => hr g (by rw [hv]; rfl) e.symm)).trans hg2, r⟩
theorem own_le {w : World} {b n cap : Nat} {e : TypeId} {A : Option Addr} {xs : List Value} (h : w.ownsRow b e 1 (.slice A n cap) n xs) : n ≤ cap := by
  rcases h.2 with ⟨_, h0⟩ | ⟨g, cap', cur, hv, _, _, hr, _⟩
  · omega
  · simp only [Value.slice.injEq] at hv; omega
theorem own_rd {w : World} {b n cap : Nat} {A : Option Addr} {zs : List Int} (h : w.ownsRow b 3 1 (.slice A n cap) n (zs.map (Value.int .i64))) : Rd w w.heap.size A n zs := by
  have hl : zs.length = n := by have := h.1; simpa using this
  have := Ow.rd (w := w) (base := b) (n := n) (cap := cap) (A := A) (zs := zs) (by unfold Ow; rw [hl]; exact h)
  rwa [hl] at this
theorem rd_below {w w' : World} {n : Nat} {A : Option Addr} {zs : List Int} (h : Rd w w.heap.size A n zs) (hb : Below w.heap.size w w') : Rd w' w'.heap.size A n zs := (h.below hb (Nat.le_refl _)).mono hb.size
theorem rd_grown {w w' : World} {B n : Nat} {A : Option Addr} {zs : List Int} {row : Option Nat} (h : Rd w B A n zs) (hg : w.grownBy w' row) (hr : ∀ g, row = some g → B ≤ g) : Rd w' B A n zs := h.grown hg hr
/-- a row of another block is read as before -/
theorem own_rd_lo {w : World} {b n cap : Nat} {e : TypeId} {A : Option Addr} {xs : List Value} (h : w.ownsRow b e 1 (.slice A n cap) n xs) : ∀ g, (Value.slice A n cap).ownBlock = some g → b ≤ g ∧ g < w.heap.size := fun g hg => h.lt g hg
theorem own_tags {w : World} {b b' n n' : Nat} {e e' : TypeId} {v v' : Value} {xs ys : List Value} (h : w.ownsRow b e 1 v n xs) (h' : w.ownsRow b' e' 1 v' n' ys) (hne : e ≠ e') : ∀ g, v.ownBlock = some g → v'.ownBlock ≠ some g := by
  intro g hg hg'
  rcases h.2 with ⟨rfl, _⟩ | ⟨k, cap, cur, rfl, _, hk, _⟩
  · simp [Value.ownBlock] at hg
  · rcases h'.2 with ⟨rfl, _⟩ | ⟨k', cap', cur', rfl, _, hk', _⟩
    · simp [Value.ownBlock] at hg'
    · simp only [Value.ownBlock, Option.some.injEq] at hg hg'
      subst hg
      subst hg'
      rw [hk] at hk'
      simp only [Option.some.injEq, Obj.cells.injEq] at hk'
      exact hne hk'.2.1
theorem own_nil {w : World} {b n : Nat} {e : TypeId} {v : Value} {xs : List Value} (h : w.ownsRow b e 1 v n xs) : ∃ A cap, v = .slice A n cap := by
  rcases h.2 with ⟨hv, h0⟩ | ⟨g, cap', cur, hv, _⟩
  · exact ⟨none, 0, by rw [hv, h0]⟩
  · exact ⟨_, _, hv⟩
end Go.Proofs.Ytojcnncaccnpeaa
