/- A law for the walk: a row of integers that the call owns is appended to by a row that it reads. -/
import Derived.Test.YtojcnncaccnpeaaInts
import Derived.Laws.AppendOwnNone
import Derived.Deep.RegionLawGrows
namespace Go.Proofs.Ytojcnncaccnpeaa
open Go.RowKit

theorem own_cap {w : World} {base n cap : Nat} {e : TypeId} {A : Option Addr} {xs : List Value} (h : w.ownsRow base e 1 (.slice A n cap) n xs) : A = none → cap = 0 := by
  intro hA
  subst hA
  rcases h.2 with ⟨hv, h0⟩ | ⟨g, cap', cur, hv, _⟩
  · simp only [Value.slice.injEq] at hv; exact hv.2.2
  · simp only [Value.slice.injEq] at hv; exact absurd hv.1 (by simp)

theorem wpList_append_rd {P : Program} {w : World} {ops : Array Oper} {rest : List Oper} {o : Oper} {a : Act} {Q : Exit → Act → World → Prop} (hgd : o.guard = none) (s x : Operand) (t : TypeId)
    (ho : o.op = .call { callee := .builtin .append, args := #[s, x], argTypes := #[t, t] })
    (base : Nat) (e : TypeId) (i : TypeInfo) (z : Value) (bytes : Nat) (ht : P.underlying t = some (.slice e)) (hi : P.info? e = some i) (hz : i.zero = some z)
    (hsize : i.size = 1) (hby : i.bytes = bytes) (hzs : z.cells.size = 1)
    (v : Value) (n : Nat) (xs : List Value) (hs : a.eval s = v) (hown : w.ownsRow base e 1 v n xs)
    (A : Option Addr) (m c : Nat) (zs : List Int) (B : Nat) (hx : a.eval x = .slice A m c) (hR : Rd w B A m zs) (hc : A = none → c = 0)
    (h63 : n + m ≤ maxLen) (hbytes : (n + m) * bytes ≤ 140737488355328) (hbase : base ≤ w.heap.size)
    (h : ∀ v' w', w'.ownsRow base e 1 v' (n + m) (xs ++ zs.map (Value.int .i64)) → w.grownBy w' v.ownBlock → wpList P ops Q rest (a.put o.dst v') w') : wpList P ops Q (o :: rest) a w := by
  cases A with
  | none =>
    have hm : m = 0 := by
      rcases Nat.eq_zero_or_pos m with h0 | h0
      · exact h0
      · obtain ⟨b, off, hA, _⟩ := hR.2 h0
        simp at hA
    subst hm
    have hzs' : zs = [] := List.eq_nil_of_length_eq_zero hR.1
    subst hzs'
    rw [hc rfl] at hx
    refine wpList_append_own_none hgd s x t ho base e i 1 ht hi v n xs hs hown hx ?_
    exact h v w (by simpa using hown) (World.grownBy.refl _ _)
  | some ad =>
    refine wpList_append_own w hgd s x t ho base e i z 1 bytes ht hi hz hsize hby hzs (by decide) v n xs hs hown ad m c (zs.map (Value.int .i64)) hx (by simp [hR.1]) ?_ ?_ h63 hbytes hbase (fun v' w' h1 h2 _ => h v' w' h1 h2)
    · intro j u hj
      rcases Nat.lt_or_ge j m with hlt | hge
      · obtain ⟨b, off, hA, _, hcell⟩ := hR.2 (by omega)
        simp only [Option.some.injEq] at hA
        subst hA
        have := hcell j hlt
        rw [List.getElem?_map] at hj
        have hl := hR.1
        rw [List.getElem?_eq_getElem (by omega)] at hj
        simp only [Option.map_some, Option.some.injEq] at hj
        rw [List.getD_eq_getElem?_getD, List.getElem?_eq_getElem (by omega)] at this
        simp only [Option.getD_some] at this
        rw [← hj]
        have e : (⟨b, off, none⟩ : Addr).add j = ⟨b, off + j, none⟩ := by simp only [Addr.add]; split <;> simp_all
        rw [e]; exact this
      · have hl := hR.1
        rw [List.getElem?_eq_none (by simp; omega)] at hj
        simp at hj
    · intro u hu
      rw [List.mem_map] at hu
      obtain ⟨y, _, rfl⟩ := hu
      rfl

theorem rd_news {w : World} {ad : Addr} {m B : Nat} {zs : List Int} (hR : Rd w B (some ad) m zs) : ∀ j u, (zs.map (Value.int .i64))[j]? = some u → w.cell? (ad.add j) = some u := by
  intro j u hj
  rcases Nat.lt_or_ge j m with hlt | hge
  · obtain ⟨b, off, hA, _, hcell⟩ := hR.2 (by omega)
    simp only [Option.some.injEq] at hA
    subst hA
    have := hcell j hlt
    rw [List.getElem?_map] at hj
    have hl := hR.1
    rw [List.getElem?_eq_getElem (by omega)] at hj
    simp only [Option.map_some, Option.some.injEq] at hj
    rw [List.getD_eq_getElem?_getD, List.getElem?_eq_getElem (by omega)] at this
    simp only [Option.getD_some] at this
    rw [← hj]
    have e : (⟨b, off, none⟩ : Addr).add j = ⟨b, off + j, none⟩ := by simp only [Addr.add]; split <;> simp_all
    rw [e]; exact this
  · have hl := hR.1
    rw [List.getElem?_eq_none (by simp; omega)] at hj
    simp at hj
theorem rd_one (zs : List Int) : ∀ u ∈ zs.map (Value.int .i64), u.oneCell' = true := by
  intro u hu
  rw [List.mem_map] at hu
  obtain ⟨y, _, rfl⟩ := hu
  rfl
theorem rd_none {w : World} {m B : Nat} {zs : List Int} (hR : Rd w B none m zs) : m = 0 ∧ zs = [] := by
  have hm : m = 0 := by
    rcases Nat.eq_zero_or_pos m with h0 | h0
    · exact h0
    · obtain ⟨b, off, hA, _⟩ := hR.2 h0
      simp at hA
  exact ⟨hm, List.eq_nil_of_length_eq_zero (by rw [hR.1]; exact hm)⟩

/-- the same as a step of a region that draws its order -/
theorem step_append_rd {P : Program} {ops : Array Oper} {o : Oper} {a : Act} {w : World} {K : Act → World → Prop} {Q : Exit → Act → World → Prop} {E : Prop}
    (hg : o.guard = none) (s x : Operand) (t : TypeId) (hop : o.op = Op.call { callee := Callee.builtin Builtin.append, args := #[s, x], argTypes := #[t, t] })
    (base : Nat) (e : TypeId) (i : TypeInfo) (z : Value) (bytes : Nat) (h1 : P.underlying t = some (.slice e)) (h2 : P.info? e = some i) (h3 : i.zero = some z) (h4 : i.size = 1) (h5 : i.bytes = bytes) (h6 : z.cells.size = 1)
    (v : Value) (n : Nat) (xs : List Value) (hs : a.eval s = v) (hown : w.ownsRow base e 1 v n xs)
    (A : Option Addr) (m c : Nat) (zs : List Int) (B : Nat) (hx : a.eval x = .slice A m c) (hR : Rd w B A m zs) (hc : A = none → c = 0)
    (b1 : n + m ≤ maxLen) (b2 : (n + m) * bytes ≤ 140737488355328) (hbase : base ≤ w.heap.size)
    (hK : ∀ v' w', w'.ownsRow base e 1 v' (n + m) (xs ++ zs.map (Value.int .i64)) → w.grownBy w' v.ownBlock → K (a.put o.dst v') w') :
    if Region.wanted o (yielded ops a.tmps) = true then Oper.wp P o a w K Q else E := by
  have hw : Region.wanted o (yielded ops a.tmps) = true := by simp [Region.wanted, hg]
  rw [if_pos hw]
  cases A with
  | none =>
    obtain ⟨rfl, rfl⟩ := rd_none hR
    rw [hc rfl] at hx
    have hrun := run_append_owned_none (P := P) (w := w) base t o.type e i 1 h1 h2 v n xs hown
    unfold Oper.wp
    simp [execOp, hop, resolve, invoke, builtin, hs, hx, hrun, Result.andThen]
    exact hK v w (by simpa using hown) (World.grownBy.refl _ _)
  | some ad =>
    obtain ⟨v', w', hrun, r1, r2, _⟩ := run_append_own (P := P) w base t o.type e i z 1 bytes h1 h2 h3 h4 h5 h6 (by decide) v n xs hown ad m c (zs.map (Value.int .i64)) (by simp [hR.1]) (rd_news hR) (rd_one zs) b1 b2 hbase
    unfold Oper.wp
    simp [execOp, hop, resolve, invoke, builtin, hs, hx, hrun, Result.andThen]
    exact hK v' w' r1 r2
end Go.Proofs.Ytojcnncaccnpeaa
