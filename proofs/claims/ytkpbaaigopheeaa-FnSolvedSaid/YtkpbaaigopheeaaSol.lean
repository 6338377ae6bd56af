/- The contract of SolveSystem of the program. -/
import Derived.Test.YtkpbaaigopheeaaCi
import Derived.Test.YtkpbaaigopheeaaPlainSolve
import Derived.Deep.AppendLies
import Derived.Deep.RegionHeldLaw
namespace Go.Proofs.Ytkpbaaigopheeaa
open Go.RowKit Go.PlainNum

/-- the rows with the right side behind -/
def wide (Z : Nat → List Int) (zs : List Int) : Nat → List Int := fun i => Z i ++ [zs.getD i 0]
theorem wide_len (Z : Nat → List Int) (zs : List Int) (i : Nat) : (wide Z zs i).length = (Z i).length + 1 := by simp [wide]
theorem wide_map (Z : Nat → List Int) (zs : List Int) (k : Nat) (z : Int) (h : zs.getD k 0 = z) : (Z k).map (Value.int .i64) ++ [Value.int .i64 z] = (wide Z zs k).map (Value.int .i64) := by
  subst h; simp [wide]
/-- whether what is asked has the form of a system with a right side -/
def eqOk (n : Nat) (Z : Nat → List Int) (zs : List Int) : Bool := sysOk n Z && decide (n = zs.length) && allNum zs
/-- the reduced table -/
def gaW (n : Nat) (Z : Nat → List Int) (zs : List Int) : List Nat × (Nat → Nat → Int) := gau n ((Z 0).length + 1) (tabM (wide Z zs)) (Z 0).length
/-- whether there is a solution -/
def solB (n : Nat) (Z : Nat → List Int) (zs : List Int) : Bool := eqOk n Z zs && decide (∀ a, a < n → (gaW n Z zs).1.length ≤ a → (gaW n Z zs).2 a (Z 0).length = 0)
/-- the solution -/
def solX (n : Nat) (Z : Nat → List Int) (zs : List Int) : List Int := if solB n Z zs = true then (List.range (Z 0).length).map (sx (gaW n Z zs).1 (gaW n Z zs).2 (Z 0).length (gaW n Z zs).1.length) else []
theorem solB_no {n : Nat} {Z : Nat → List Int} {zs : List Int} (h : eqOk n Z zs = false) : solB n Z zs = false := by unfold solB; rw [h]; rfl
theorem solX_no {n : Nat} {Z : Nat → List Int} {zs : List Int} (h : solB n Z zs = false) : solX n Z zs = [] := if_neg (by rw [h]; simp)
theorem eqOk_1 {n : Nat} {Z : Nat → List Int} {zs : List Int} (h : sysOk n Z = false) : eqOk n Z zs = false := by simp [eqOk, h]
theorem eqOk_2 {n : Nat} {Z : Nat → List Int} {zs : List Int} (h : ¬ n = zs.length) : eqOk n Z zs = false := by simp [eqOk, h]
theorem eqOk_3 {n : Nat} {Z : Nat → List Int} {zs : List Int} (h : allNum zs = false) : eqOk n Z zs = false := by simp [eqOk, h]
theorem eqOk_4 {n : Nat} {Z : Nat → List Int} {zs : List Int} (h1 : sysOk n Z = true) (h2 : n = zs.length) (h3 : allNum zs = true) : eqOk n Z zs = true := by simp [eqOk, h1, ← h2, h3]
theorem eqOk_is {n : Nat} {Z : Nat → List Int} {zs : List Int} (h : eqOk n Z zs = true) : sysOk n Z = true ∧ n = zs.length ∧ allNum zs = true := by simpa [eqOk, and_assoc] using h
theorem solB_bad {n W : Nat} {Z : Nat → List Int} {zs : List Int} {pv : List Nat} {M' : Nat → Nat → Int} (hW : (Z 0).length = W) (hg : gau n (W + 1) (tabM (wide Z zs)) W = (pv, M')) (a : Nat) (ha : a < n) (hp : pv.length ≤ a) (h : M' a W ≠ 0) : solB n Z zs = false := by
  subst hW
  have e : gaW n Z zs = (pv, M') := hg
  unfold solB
  rw [e, decide_eq_false (fun q => h (q a ha hp)), Bool.and_false]
theorem solB_good {n W : Nat} {Z : Nat → List Int} {zs : List Int} {pv : List Nat} {M' : Nat → Nat → Int} (h0 : eqOk n Z zs = true) (hW : (Z 0).length = W) (hg : gau n (W + 1) (tabM (wide Z zs)) W = (pv, M')) (h : ∀ a, a < n → pv.length ≤ a → M' a W = 0) :
    solB n Z zs = true ∧ solX n Z zs = (List.range W).map (sx pv M' W pv.length) := by
  subst hW
  have e : gaW n Z zs = (pv, M') := hg
  have hb : solB n Z zs = true := by
    unfold solB
    rw [e, decide_eq_true h, h0]; rfl
  refine ⟨hb, ?_⟩
  unfold solX
  rw [if_pos hb, e]
theorem nm_wide {n W : Nat} {Z : Nat → List Int} {zs : List Int} (h : eqOk n Z zs = true) (hW : (Z 0).length = W) : Nm n (W + 1) (tabM (wide Z zs)) := by
  obtain ⟨h1, h2, h3⟩ := eqOk_is h
  obtain ⟨_, _, q⟩ := sysOk_is h1
  subst hW
  intro i j hi hj
  obtain ⟨q1, _, _, q4⟩ := q i hi
  unfold tabM wide
  by_cases hjl : j < (Z i).length
  · rw [show (Z i ++ [zs.getD i 0]).getD j 0 = (Z i).getD j 0 by simp [List.getD, List.getElem?_append_left hjl]]
    exact allNum_get (Z i) q4 j hjl
  · have hjj : j = (Z i).length := by omega
    subst hjj
    rw [show (Z i ++ [zs.getD i 0]).getD (Z i).length 0 = zs.getD i 0 by simp [List.getD]]
    exact allNum_get zs h3 i (by omega)
attribute [irreducible] eqOk solB solX wide

/-- the world while a row is laid for the table: an empty row of the call's own at block q -/
structure Emp (s : Nat) (wr wx : World) (q xb xo : Nat) (vs : List Value) : Prop where
  own : wx.ownsRow s 3 1 (.slice (some ⟨q, 0, none⟩) 0 0) 0 []
  bel : Below s wr wx
  src : ∀ j u, vs[j]? = some u → wx.cell? ((⟨xb, xo, none⟩ : Addr).add j) = some u
theorem Emp.hi {s q xb xo : Nat} {wr wx : World} {vs : List Value} (h : Emp s wr wx q xb xo vs) (hs : wr.heap.size = s) : s ≤ wx.heap.size := by have := h.bel.size; omega
theorem vs_one (l : List Int) : ∀ u ∈ l.map (Value.int .i64), u.oneCell' = true := by
  intro u hu
  rw [List.mem_map] at hu
  obtain ⟨y, _, rfl⟩ := hu
  rfl
theorem src_of {w : World} {B xb xo m : Nat} {zs : List Int} (hR : Rd w B (some ⟨xb, xo, none⟩) m zs) : ∀ j u, (zs.map (Value.int .i64))[j]? = some u → w.cell? ((⟨xb, xo, none⟩ : Addr).add j) = some u := rd_news hR
theorem lit_new (w : World) (x : Value) (t : TypeId) (p : Nat) (hp : p = w.heap.size) : (w.alloc (.cells #[x] t)).cell? ⟨p, 0, none⟩ = some x := by
  subst hp
  simp
theorem lit_news {w : World} {p : Nat} {x : Value} (h : w.cell? ⟨p, 0, none⟩ = some x) : ∀ j u, [x][j]? = some u → w.cell? ((⟨p, 0, none⟩ : Addr).add j) = some u := by
  intro j u hj
  match j, hj with
  | 0, hj =>
    simp at hj
    subst hj
    simpa [Addr.add] using h
theorem int_one (z : Int) : ∀ u ∈ [Value.int .i64 z], u.oneCell' = true := by intro u hu; simp at hu; subst hu; rfl

theorem asz (w : World) (o : Obj) : (w.alloc o).heap.size = w.heap.size + 1 := by simp
theorem dsz (w : World) : w.drew.heap.size = w.heap.size := rfl
theorem addr_block (a : Addr) (j : Nat) : (a.add j).block = a.block := by unfold Addr.add; split <;> rfl
theorem Emp.mid {s q xb xo g : Nat} {wr wx w1 : World} {vs : List Value} (h : Emp s wr wx q xb xo vs) (hs : wr.heap.size = s) (hq : s ≤ q) (G : wx.grownBy w1 (Value.slice (some ⟨q, 0, none⟩) 0 0).ownBlock) (_hg : g < w1.heap.size) : Below s wr w1 :=
  h.bel.grown G (h.hi hs) (by intro k hk; simp [Value.ownBlock] at hk; omega)
theorem Emp.lit {s q xb xo p : Nat} {wr wx w1 : World} {vs : List Value} {x : Value} (_h : Emp s wr wx q xb xo vs) (hl : wx.cell? ⟨p, 0, none⟩ = some x) (hp : p < wx.heap.size) (hne : p ≠ q) (G : wx.grownBy w1 (Value.slice (some ⟨q, 0, none⟩) 0 0).ownBlock) : w1.cell? ⟨p, 0, none⟩ = some x :=
  (G.cell_far ⟨p, 0, none⟩ hp (by simp only [Value.ownBlock, ne_eq, Option.some.injEq]; exact hne)).trans hl
theorem mid_own {s n b c : Nat} {wr w1 w2 : World} {xs : List Value} (h : Below s wr w1) (hs : s ≤ w1.heap.size) (O : w1.ownsRow s 3 1 (.slice (some ⟨b, 0, none⟩) n c) n xs) (G : w1.grownBy w2 (Value.slice (some ⟨b, 0, none⟩) n c).ownBlock) : Below s wr w2 :=
  h.grown G hs (fun k hk => (O.lt k hk).1)
theorem sol_push {s base k V g2 c2 d : Nat} {Cp : Option Addr} {wr w2 w3 : World} {v3 : Value} {bs ks : Nat → Nat} {R : Nat → List Int} {r : List Int} {o : Obj} (HM : Bld wr base (.slice Cp k d) k V bs ks R) (hs : wr.heap.size = s) (hbs : base ≤ s) (B2 : Below s wr w2)
    (O2 : w2.ownsRow s 3 1 (.slice (some ⟨g2, 0, none⟩) V c2) V (r.map (Value.int .i64))) (hr : r = R k) (O3 : w3.ownsRow base 25 1 v3 (k + 1) (heads k V bs ks ++ [Value.slice (some ⟨g2, 0, none⟩) V c2])) (G3 : (w2.alloc o).grownBy w3 (Value.slice Cp k d).ownBlock) :
    (∃ bs' ks', Bld w3 base v3 (k + 1) V bs' ks' R) ∧ Below base wr w3 := by
  subst hs
  have h2 := B2.size
  have M2 := HM.below B2
  have al : Below w2.heap.size w2 (w2.alloc o) := (Below.refl _ _).alloc (Nat.le_refl _) _
  have X := (M2.below al).push O3 G3 (own_below (own_lower O2 hbs) al) (fun i hi => by have h1 := (row_lt (HM.row i hi)).2; have h2 := (row_lt O2).1; omega)
  refine ⟨⟨_, _, X.congr (R' := R) (fun i hi => ?_)⟩, ((B2.mono hbs).alloc (by omega) o).grown G3 (by rw [asz]; omega) (fun q hq => (M2.out.lt q hq).1)⟩
  by_cases hik : i = k
  · subst hik; rw [put_at]; exact hr
  · rw [put_lt _ _ _ (by omega)]
theorem hdr_one (g W c : Nat) : ∀ u ∈ [Value.slice (some ⟨g, 0, none⟩) W c], u.oneCell' = true := by intro u hu; simp at hu; subst hu; rfl
theorem emp_a {s xb xo : Nat} {wr : World} {vs : List Value} (hs : wr.heap.size = s) (hx : xb < s) (h : ∀ j u, vs[j]? = some u → wr.cell? ((⟨xb, xo, none⟩ : Addr).add j) = some u) : Emp s wr (wr.drew.alloc (.cells #[] 3)) s xb xo vs := by
  subst hs
  have hb : Below wr.heap.size wr (wr.drew.alloc (.cells #[] 3)) := (Below.refl _ wr).drew.alloc (Nat.le_refl _) _
  exact ⟨World.ownsRow_lit wr.drew #[] 0 (Nat.le_refl _) (by unfold maxLen; omega) rfl, hb, fun j u hu => (hb.cell (p := (⟨xb, xo, none⟩ : Addr).add j) (by rw [addr_block]; exact hx)).trans (h j u hu)⟩
theorem emp_b {s xb xo : Nat} {wr : World} {vs : List Value} (hs : wr.heap.size = s) (hx : xb < s) (o : Obj) (h : ∀ j u, vs[j]? = some u → wr.cell? ((⟨xb, xo, none⟩ : Addr).add j) = some u) : Emp s wr ((wr.drew.alloc (.cells #[] 3)).alloc o) s xb xo vs := by
  have e := emp_a hs hx h
  have hb : Below s wr ((wr.drew.alloc (.cells #[] 3)).alloc o) := e.bel.alloc (e.hi hs) o
  exact ⟨e.own.alloc o, hb, fun j u hu => (hb.cell (p := (⟨xb, xo, none⟩ : Addr).add j) (by rw [addr_block]; exact hx)).trans (h j u hu)⟩
theorem emp_c {s xb xo : Nat} {wr : World} {vs : List Value} (hs : wr.heap.size = s) (hx : xb < s) (o : Obj) (h : ∀ j u, vs[j]? = some u → wr.cell? ((⟨xb, xo, none⟩ : Addr).add j) = some u) : Emp s wr ((wr.drew.alloc o).alloc (.cells #[] 3)) (s + 1) xb xo vs := by
  subst hs
  have hb : Below wr.heap.size wr ((wr.drew.alloc o).alloc (.cells #[] 3)) := ((Below.refl _ wr).drew.alloc (Nat.le_refl _) _).alloc (by rw [asz, dsz]; omega) _
  refine ⟨?_, hb, fun j u hu => (hb.cell (p := (⟨xb, xo, none⟩ : Addr).add j) (by rw [addr_block]; exact hx)).trans (h j u hu)⟩
  have := World.ownsRow_lit (base := wr.heap.size) (e := 3) (size := 1) (wr.drew.alloc o) #[] 0 (by rw [asz, dsz]; omega) (by unfold maxLen; omega) rfl
  rw [asz, dsz] at this
  exact this

/-- the vector while it is filled -/
def outL (pv : List Nat) (M : Nat → Nat → Int) (W q : Nat) : List Int := (List.range W).map (sx pv M W q)
theorem outL_len (pv : List Nat) (M : Nat → Nat → Int) (W q : Nat) : (outL pv M W q).length = W := by simp [outL]
theorem outL_zero (pv : List Nat) (M : Nat → Nat → Int) (W : Nat) : outL pv M W 0 = List.replicate W 0 := by
  apply List.ext_getElem?
  intro j
  by_cases hj : j < W
  · simp [outL, hj, sx]
  · simp [outL, hj]
theorem outL_set (pv : List Nat) (M : Nat → Nat → Int) (W q : Nat) : (outL pv M W q).set (pv.getD q 0) (M q W) = outL pv M W (q + 1) := by
  apply List.ext_getElem?
  intro j
  by_cases hj : j < W
  · by_cases hk : j = pv.getD q 0
    · rw [← hk, List.getElem?_set_self (by simp [outL, hj])]
      simp only [outL, List.getElem?_map, List.getElem?_range hj, Option.map_some, sx_succ, if_pos hk]
    · rw [List.getElem?_set_ne (by omega)]
      simp only [outL, List.getElem?_map, List.getElem?_range hj, Option.map_some, sx_succ, if_neg hk]
  · rw [List.getElem?_eq_none (by simp [outL]; omega), List.getElem?_eq_none (by simp [outL]; omega)]
attribute [irreducible] outL

/-- what the reduction leaves, for the walk -/
def RedT (w w' : World) (B g n W t : Nat) (pv : List Nat) (M' : Nat → Nat → Int) (e : Ending) : Prop :=
  ∃ A c bs ks, e = .returned (.slice A t c) ∧ Hid (w'.ownsRow w.heap.size 3 1 (.slice A t c) t (pv.map fun i : Nat => Value.int .i64 (i : Int))) ∧ Hid (Mat w' B w.heap.size g n W bs ks M') ∧ Below B w w'
theorem red_tab (g n k W C B t : Nat) (bs ks : Nat → Nat) (M M' : Nat → Nat → Int) (pv : List Nat) (hg : gau n W M C = (pv, M')) (ht : pv.length = t) (w : World) (h : Mat w B w.heap.size g n W bs ks M) (hNm : Nm n W M) (hn : 0 < n) (hn' : n ≤ 100) (hW : W ≤ 100) (hC : C ≤ W) :
    Calls Try.prog 29 #[.slice (some ⟨g, 0, none⟩) n k, .int .i64 C] w fun e w' => RedT w w' B g n W t pv M' e := by
  subst ht
  exact (red_any g n k W C B bs ks M w h hNm hn hn' hW hC).mono fun e w' ⟨A, l, c, bs', ks', he, hl, hO, hM, _, hb⟩ => by
    rw [hg] at hl hO hM
    subst hl
    exact ⟨A, c, bs', ks', he, Lib.hid hO, Lib.hid hM, hb⟩
theorem sred_tab (g n k W C B t : Nat) (bs ks : Nat → Nat) (M M' : Nat → Nat → Int) (pv : List Nat) (hg : gau n W M C = (pv, M')) (ht : pv.length = t) (w : World) (h : Mat w B w.heap.size g n W bs ks M) (hNm : Nm n W M) (hn : 0 < n) (hn' : n ≤ 100) (hW : W ≤ 100) (hC : C ≤ W) :
    Calls Try.prog 33 #[.slice (some ⟨g, 0, none⟩) n k, .int .i64 C] w fun e w' => RedT w w' B g n W t pv M' e := by
  subst ht
  exact (sred_any g n k W C B bs ks M w h hNm hn hn' hW hC).mono fun e w' ⟨A, l, c, bs', ks', he, hl, hO, hM, _, hb⟩ => by
    rw [hg] at hl hO hM
    subst hl
    exact ⟨A, c, bs', ks', he, Lib.hid hO, Lib.hid hM, hb⟩

/-- what SolveSystem leaves -/
def SolP (w w' : World) (n : Nat) (Z : Nat → List Int) (zs : List Int) (e : Ending) : Prop :=
  ∃ A c, e = .returned (.tuple #[.slice A (solX n Z zs).length c, .bool (solB n Z zs)]) ∧ w'.ownsRow w.heap.size 3 1 (.slice A (solX n Z zs).length c) (solX n Z zs).length ((solX n Z zs).map (Value.int .i64)) ∧ Below w.heap.size w w'
theorem solP_no {w w' : World} {n : Nat} {Z : Nat → List Int} {zs : List Int} (h : solB n Z zs = false) (hb : Below w.heap.size w w') : SolP w w' n Z zs (.returned (.tuple #[.slice none 0 0, .bool false])) := by
  refine ⟨none, 0, ?_, ?_, hb⟩
  · rw [solX_no h, h]; rfl
  · rw [solX_no h]; exact World.ownsRow_nil _ _ _ _
theorem solP_yes {w w' : World} {n W c : Nat} {A : Option Addr} {Z : Nat → List Int} {zs L : List Int} (h1 : solB n Z zs = true) (h2 : solX n Z zs = L) (hl : L.length = W) (hO : w'.ownsRow w.heap.size 3 1 (.slice A W c) W (L.map (Value.int .i64))) (hb : Below w.heap.size w w') :
    SolP w w' n Z zs (.returned (.tuple #[.slice A W c, .bool true])) := by
  subst hl
  subst h2
  exact ⟨A, c, by rw [h1], hO, hb⟩
theorem SolP.out {w w' : World} {n : Nat} {Z : Nat → List Int} {zs : List Int} {e : Ending} (h : SolP w w' n Z zs e) :
    ∃ A c, e = .returned (.tuple #[.slice A (solX n Z zs).length c, .bool (solB n Z zs)]) ∧ w'.ownsRow w.heap.size 3 1 (.slice A (solX n Z zs).length c) (solX n Z zs).length ((solX n Z zs).map (Value.int .i64)) ∧ Below w.heap.size w w' := h
attribute [irreducible] SolP

set_option maxRecDepth 100000 in
set_option maxHeartbeats 16000000 in
theorem sol_any (B : Nat) (A A' : Option Addr) (n c m d : Nat) (Z : Nat → List Int) (zs : List Int) (w : World) (h : RdT w B A n Z) (h' : Rd w B A' m zs) (hB : B ≤ w.heap.size) (hL : ∀ j, j < n → ((Z j).length : Int) ≤ 4000000) (hn : (n : Int) ≤ 4000000) (hm : (m : Int) ≤ 4000000) :
    Calls Try.prog 8 #[.slice A n c, .slice A' m d] w fun e w' => SolP w w' n Z zs e := by
  have hzl := h'.1
  obtain ⟨s, hs⟩ : ∃ s, sysOk n Z = s := ⟨_, rfl⟩
  have H := Lib.hid h
  have H' := Lib.hid h'
  have HS := Lib.hid hs
  have HL := Lib.hid hL
  clear h'
  cases s with
  | false =>
    have R := Lib.hid (solB_no (zs := zs) (eqOk_1 hs))
    clear h hs hL
    go_enter Try.func8, Try.ntmps8
    go_wp2_with (go_at_call 27; refine (systemOk_eq B _ _ _ Z _ HS.out _ H.out HL.out (by omega)).mono ?_; rintro e w' ⟨rfl, rfl⟩)
    go_ret2
    exact solP_no R.out (Below.refl _ _)
  | true =>
  by_cases hnm : n = m
  case neg =>
    have t1 : ((n : Int) != (m : Int)) = true := by rw [bne_iff_ne]; omega
    have R := Lib.hid (solB_no (eqOk_2 (Z := Z) (zs := zs) (by rw [hzl]; exact hnm)))
    clear h hs hL hzl
    go_enter Try.func8, Try.ntmps8
    go_wp2_with (go_at_call 27; refine (systemOk_eq B _ _ _ Z _ HS.out _ H.out HL.out (by omega)).mono ?_; rintro e w' ⟨rfl, rfl⟩)
    go_ret2
    exact solP_no R.out (Below.refl _ _)
  subst hnm
  have t1 : ((n : Int) != (n : Int)) = false := by simp
  obtain ⟨r, hr⟩ : ∃ r, allNum zs = r := ⟨_, rfl⟩
  have HR := Lib.hid hr
  cases r with
  | false =>
    have R := Lib.hid (solB_no (eqOk_3 (n := n) (Z := Z) hr))
    clear h hs hL hzl hr
    go_enter Try.func8, Try.ntmps8
    go_wp2_with (first | (go_at_call 27; refine (systemOk_eq B _ _ _ Z _ HS.out _ H.out HL.out (by omega)).mono ?_; rintro e w' ⟨rfl, rfl⟩) | (go_at_call 28; refine (allNumbers_eq B _ _ _ zs _ HR.out _ H'.out (by omega)).mono ?_; rintro e w' ⟨rfl, rfl⟩))
    go_ret2
    exact solP_no R.out (Below.refl _ _)
  | true =>
  have hE := eqOk_4 hs hzl.symm hr
  obtain ⟨hn1, hn2, hq⟩ := sysOk_is hs
  obtain ⟨W, hW0⟩ : ∃ W, (Z 0).length = W := ⟨_, rfl⟩
  have hW1 : 0 < W := by have := (hq 0 hn1).2.1; omega
  have hW2 : W ≤ 40 := by have := (hq 0 hn1).2.2.1; omega
  have hW : Hid (∀ j, j < n → (Z j).length = W) := Lib.hid (fun j hj => by rw [(hq j hj).1, hW0])
  have NM : Hid (Nm n (W + 1) (tabM (wide Z zs))) := Lib.hid (nm_wide hE hW0)
  obtain ⟨i0, hi0, hz0, hz1, hz2⟩ := info_parts infoInt
  obtain ⟨i1, hi1, hy0, hy1, hy2⟩ := info_parts infoRow
  obtain ⟨b, off, rfl, hb, hc⟩ := h hn1
  obtain ⟨rb, ro, rfl, hrb, hrc⟩ := H'.out.2 hn1
  obtain ⟨X0, k0, c0, -⟩ := hc 0 hn1
  rw [Nat.add_zero, hW0] at c0
  have hc := Lib.hid hc
  have hrc := Lib.hid hrc
  have hE := Lib.hid hE
  have hW0 := Lib.hid hW0
  clear h hq hs hL hzl hr
  go_enter Try.func8, Try.ntmps8
  go_wp2_with (first | (go_at_call 27; refine (systemOk_eq B _ _ _ Z _ HS.out _ H.out HL.out (by omega)).mono ?_; rintro e w' ⟨rfl, rfl⟩) | (go_at_call 28; refine (allNumbers_eq B _ _ _ zs _ HR.out _ H'.out (by omega)).mono ?_; rintro e w' ⟨rfl, rfl⟩))
  have c0 := Lib.hid c0
  go_loopw [7, 35] (fun p i wr => ∃ (k : Nat) (bs ks : Nat → Nat), i = .int .i64 k ∧ k ≤ n ∧ Hid (Bld wr w.heap.size p k (W + 1) bs ks (wide Z zs)) ∧ Hid (Below w.heap.size w wr)) (fun _ i _ => n - (intOf i).toNat)
  case atStart => exact ⟨0, fun _ => 0, fun _ => 0, rfl, Nat.zero_le _, Lib.hid (bld_zero w), Lib.hid ((Below.refl _ _).alloc (Nat.le_refl _) _)⟩
  case round =>
    rename_i p wr _
    obtain ⟨k, bs, ks, rfl, hk, HM, HB⟩ := hrel
    obtain ⟨Cp, d, rfl⟩ := own_nil HM.out.out
    by_cases hlt : k < n
    · obtain ⟨X, kc, c1, H1⟩ := hc.out k hlt
      rw [hW.out k hlt] at c1 H1
      obtain ⟨xb, xo, rfl, hxb, -⟩ := H1.2 hW1
      have szr : w.heap.size ≤ wr.heap.size := HB.out.size
      have d1 : wr.cell? ⟨b, off + k, none⟩ = some (.slice (some ⟨xb, xo, none⟩) W kc) := (HB.out.cell (p := ⟨b, off + k, none⟩) (show b < w.heap.size by omega)).trans c1
      obtain ⟨z, hz⟩ : ∃ z, zs.getD k 0 = z := ⟨_, rfl⟩
      have r1 : wr.cell? ⟨rb, ro + k, none⟩ = some (.int .i64 z) := ((HB.out.cell (p := ⟨rb, ro + k, none⟩) (show rb < w.heap.size by omega)).trans (hrc.out k hlt)).trans (by rw [hz])
      obtain ⟨sz, hsz⟩ : ∃ sz, wr.heap.size = sz := ⟨_, rfl⟩
      have RR := src_of (H1.below HB.out hB)
      obtain ⟨vs, hvs⟩ : ∃ vs, (Z k).map (Value.int .i64) = vs := ⟨_, rfl⟩
      rw [hvs] at RR
      have hvl : vs.length = W := by rw [← hvs]; simpa using hW.out k hlt
      have hv1 : Hid (∀ u ∈ vs, u.oneCell' = true) := Lib.hid (by rw [← hvs]; exact vs_one _)
      go_wp2_with fail
      have ne := World.new_ne wr _ r1
      have EA := Lib.hid (emp_a hsz (show xb < sz by omega) RR)
      have EB := Lib.hid (emp_b hsz (show xb < sz by omega) (.cells #[.int .i64 z] 3) RR)
      have EC := Lib.hid (emp_c hsz (show xb < sz by omega) (.cells #[.int .i64 z] 3) RR)
      have LB : Hid (World.cell? ((wr.drew.alloc (.cells #[] 3)).alloc (.cells #[.int .i64 z] 3)) ⟨sz + 1, 0, none⟩ = some (.int .i64 z)) := Lib.hid (lit_new _ _ _ _ (by simp only [asz, dsz]; omega))
      have LC : Hid (World.cell? ((wr.drew.alloc (.cells #[.int .i64 z] 3)).alloc (.cells #[] 3)) ⟨sz, 0, none⟩ = some (.int .i64 z)) := Lib.hid (((Below.refl (sz + 1) (wr.drew.alloc (.cells #[.int .i64 z] 3))).alloc (by simp only [asz, dsz]; omega) _).cell (p := ⟨sz, 0, none⟩) (Nat.lt_succ_self _) |>.trans (lit_new _ _ _ _ (by simp only [dsz]; omega)))
      have hRR := Lib.hid RR
      have hr1 := Lib.hid r1
      have hvl := Lib.hid hvl
      have hvs := Lib.hid hvs
      have hz := Lib.hid hz
      have KC : Hid (∀ w1, Below sz wr w1 → w1.cell? ⟨rb, ro + k, none⟩ = some (.int .i64 z)) := Lib.hid (fun w1 hb1 => (hb1.cell (p := ⟨rb, ro + k, none⟩) (show rb < sz by omega)).trans r1)
      have M2 : Hid (∀ w2, Below sz wr w2 → Bld w2 w.heap.size (.slice Cp k d) k (W + 1) bs ks (wide Z zs)) := Lib.hid (fun w2 h2 => HM.out.below (by rw [hsz]; exact h2))
      have szr2 : w.heap.size ≤ sz := by omega
      have KC2 : Hid (∀ w1, Below w.heap.size wr w1 → w1.cell? ⟨rb, ro + k, none⟩ = some (.int .i64 z)) := Lib.hid (fun w1 hb1 => (hb1.cell (p := ⟨rb, ro + k, none⟩) (show rb < w.heap.size by omega)).trans r1)
      clear RR c1 H1
      go_region_held_law (fun w' => w'.cell? ⟨rb, ro + k, none⟩ = some (.int .i64 z)) (go_keep) (first
        | (refine step_append_lies _ rfl (.tmp 41) (.tmp 42) 25 rfl sz 3 i0 (.int .i64 0) 1 8 Try.underlying25 hi0 hz0 hz1 hz2 rfl (by decide) (.slice (some ⟨sz, 0, none⟩) 0 0) 0 [] rfl EA.out.own ⟨xb, xo, none⟩ W kc vs rfl (by rw [hvl.out, Nat.mul_one]) EA.out.src hv1.out hW1 (by unfold maxLen; omega) (by omega) (EA.out.hi hsz) _ rfl ?_; intro g1 c1 w1 O1 G1 _ h1; have B1 := Lib.hid (EA.out.mid hsz (Nat.le_refl _) G1 h1); have q1 := KC.out _ B1.out; have nf1 := World.new_ne w1 _ q1; have O1 := Lib.hid O1; clear G1)
        | (refine step_append_lies _ rfl (.tmp 41) (.tmp 42) 25 rfl sz 3 i0 (.int .i64 0) 1 8 Try.underlying25 hi0 hz0 hz1 hz2 rfl (by decide) (.slice (some ⟨sz, 0, none⟩) 0 0) 0 [] rfl EB.out.own ⟨xb, xo, none⟩ W kc vs rfl (by rw [hvl.out, Nat.mul_one]) EB.out.src hv1.out hW1 (by unfold maxLen; omega) (by omega) (EB.out.hi hsz) _ rfl ?_; intro g1 c1 w1 O1 G1 _ h1; have B1 := Lib.hid (EB.out.mid hsz (Nat.le_refl _) G1 h1); have l1 := Lib.hid (EB.out.lit LB.out (by simp only [asz, dsz]; omega) (by omega) G1); have q1 := KC.out _ B1.out; have nf1 := World.new_ne w1 _ q1; have O1 := Lib.hid O1; clear G1)
        | (refine step_append_lies _ rfl (.tmp 41) (.tmp 42) 25 rfl sz 3 i0 (.int .i64 0) 1 8 Try.underlying25 hi0 hz0 hz1 hz2 rfl (by decide) (.slice (some ⟨sz + 1, 0, none⟩) 0 0) 0 [] rfl EC.out.own ⟨xb, xo, none⟩ W kc vs rfl (by rw [hvl.out, Nat.mul_one]) EC.out.src hv1.out hW1 (by unfold maxLen; omega) (by omega) (EC.out.hi hsz) _ rfl ?_; intro g1 c1 w1 O1 G1 _ h1; have B1 := Lib.hid (EC.out.mid hsz (Nat.le_succ _) G1 h1); have l1 := Lib.hid (EC.out.lit LC.out (by simp only [asz, dsz]; omega) (by omega) G1); have q1 := KC.out _ B1.out; have nf1 := World.new_ne w1 _ q1; have O1 := Lib.hid O1; clear G1)
        | (refine step_append_lies _ rfl (.tmp 43) (.tmp 48) 25 rfl sz 3 i0 (.int .i64 0) 1 8 Try.underlying25 hi0 hz0 hz1 hz2 rfl (by decide) (.slice (some ⟨g1, 0, none⟩) W c1) W vs rfl (by simpa using O1.out.alloc _) ⟨w1.heap.size, 0, none⟩ 1 1 [.int .i64 z] rfl rfl (cell_one_new w1 _ _) (int_one z) (by decide) (by unfold maxLen; omega) (by omega) (by have := B1.out.size; simp only [asz]; omega) _ rfl ?_; intro g2 c2 w2 O2 G2 _ h2; have B2 := Lib.hid (mid_own (B1.out.alloc (by have := B1.out.size; omega) _) (by have := B1.out.size; simp only [asz]; omega) (by simpa using O1.out.alloc _) G2); have O2 := Lib.hid O2; have q2 := KC.out _ B2.out; have nf2 := World.new_ne w2 _ q2; clear G2)
        | (refine step_append_lies _ rfl (.tmp 43) (.tmp 48) 25 rfl sz 3 i0 (.int .i64 0) 1 8 Try.underlying25 hi0 hz0 hz1 hz2 rfl (by decide) (.slice (some ⟨g1, 0, none⟩) (0 + W) c1) (0 + W) ([] ++ vs) rfl O1.out ⟨sz + 1, 0, none⟩ 1 1 [.int .i64 z] rfl rfl (lit_news l1.out) (int_one z) (by decide) (by unfold maxLen; omega) (by omega) (by have := B1.out.size; omega) _ rfl ?_; intro g2 c2 w2 O2 G2 _ h2; have B2 := Lib.hid (mid_own B1.out (by have := B1.out.size; omega) O1.out G2); have O2 := Lib.hid O2; have q2 := KC.out _ B2.out; have nf2 := World.new_ne w2 _ q2; clear G2)
        | (refine step_append_lies _ rfl (.tmp 43) (.tmp 48) 25 rfl sz 3 i0 (.int .i64 0) 1 8 Try.underlying25 hi0 hz0 hz1 hz2 rfl (by decide) (.slice (some ⟨g1, 0, none⟩) (0 + W) c1) (0 + W) ([] ++ vs) rfl O1.out ⟨sz, 0, none⟩ 1 1 [.int .i64 z] rfl rfl (lit_news l1.out) (int_one z) (by decide) (by unfold maxLen; omega) (by omega) (by have := B1.out.size; omega) _ rfl ?_; intro g2 c2 w2 O2 G2 _ h2; have B2 := Lib.hid (mid_own B1.out (by have := B1.out.size; omega) O1.out G2); have O2 := Lib.hid O2; have q2 := KC.out _ B2.out; have nf2 := World.new_ne w2 _ q2; clear G2)
        | (refine step_append_lies _ rfl (.tmp 40) (.tmp 50) 24 rfl w.heap.size 25 i1 (.slice none 0 0) 1 24 Try.underlying24 hi1 hy0 hy1 hy2 rfl (by decide) (.slice Cp k d) k (heads k (W + 1) bs ks) rfl ((M2.out _ B2.out).out.alloc _) ⟨w2.heap.size, 0, none⟩ 1 1 [.slice (some ⟨g2, 0, none⟩) (W + 1) c2] rfl rfl (cell_one_new w2 _ _) (hdr_one _ _ _) (by decide) (by unfold maxLen; omega) (by omega) (by have := B2.out.size; simp only [asz]; omega) _ rfl ?_; intro g3 c3 w3 O3 G3 _ h3; have X3 := Lib.hid (sol_push HM.out hsz szr2 B2.out (r := wide Z zs k) (by rw [← wide_map Z zs k z hz.out, hvs.out]; simpa using O2.out) rfl O3 G3); have q3 := KC2.out _ X3.out.2; clear O3 G3))
      all_goals (
        obtain ⟨⟨bs3, ks3, X4⟩, Y4⟩ := X3.out
        have X4 := Lib.hid X4
        have Y4 := Lib.hid (HB.out.trans Y4)
        clear X3
        go_wp2_with fail
        go_roundw)
      all_goals first | exact ⟨k + 1, _, _, by go_num, by omega, X4, Y4⟩ | (simp [intOf]; omega)
    · obtain rfl : k = n := by omega
      obtain ⟨g, cap, e, HT⟩ := HM.out.mat hn1
      simp only [Value.slice.injEq, true_and] at e
      obtain ⟨rfl, rfl⟩ := e
      have HT : Hid (Mat wr w.heap.size wr.heap.size g k (W + 1) bs ks (tabM (wide Z zs))) := Lib.hid (by unfold tabM; exact HT)
      obtain ⟨⟨pv, M'⟩, hg⟩ : ∃ s, gau k (W + 1) (tabM (wide Z zs)) W = s := ⟨_, rfl⟩
      have RD : Hid (Rdf k W (pv, M')) := Lib.hid (hg ▸ gau_rdf NM.out W (by omega))
      obtain ⟨t, ht⟩ : ∃ t, pv.length = t := ⟨_, rfl⟩
      have htk : t ≤ k := by rw [← ht]; exact RD.out.len
      have hg := Lib.hid hg
      have ht := Lib.hid ht
      have szr : w.heap.size ≤ wr.heap.size := HB.out.size
      have bad : Hid (∀ a, a < k → t ≤ a → M' a W ≠ 0 → solB k Z zs = false) := Lib.hid (fun a h1 h2 h3 => solB_bad hW0.out hg.out a h1 (by rw [ht.out]; exact h2) h3)
      have good : Hid ((∀ a, a < k → t ≤ a → M' a W = 0) → solB k Z zs = true ∧ solX k Z zs = outL pv M' W t) := Lib.hid (fun h => by
        have q := solB_good hE.out hW0.out hg.out (by rw [ht.out]; exact h)
        rw [ht.out] at q
        unfold outL
        exact q)
      go_wp2_with fail
      refine (red_tab g k _ (W + 1) W w.heap.size t bs ks _ M' pv hg.out ht.out wr HT.out NM.out hn1 (by omega) (by omega) (by omega)).mono ?_
      rintro e w5 ⟨Ap, cp, bs5, ks5, rfl, OP, MP, B5⟩
      have B5w := Lib.hid (HB.out.trans B5)
      have sz5 : wr.heap.size ≤ w5.heap.size := B5.size
      clear B5 HM HT
      go_wp2_with (at_make; refine wpList_make_full _ rfl _ _ 25 rfl w5.heap.size 3 i0 (.int .i64 0) 1 Try.underlying25 hi0 hz0 hz1 _ _ _ _ W rfl rfl rfl rfl (by rw [hz2]; omega) (by unfold maxLen; omega) (Nat.le_refl _) ?_)
      intro w6 hown hg6
      have B6 := Lib.hid (show Below w5.heap.size w5 w6 from (Below.refl _ _).grown hg6 (Nat.le_refl _) (by intro k hk; cases hk))
      have O6 : Hid (w6.ownsRow w5.heap.size 3 1 (.slice (some ⟨w5.heap.size, 0, none⟩) W W) W ((outL pv M' W 0).map (Value.int .i64))) := Lib.hid (by
        rw [outL_zero]
        simpa [toList_madeCells_one, Value.cells] using hown)
      clear hown hg6
      go_wp2_with fail
      go_loopw [60] (fun x w7 => ∃ i q : Nat, x = .int .i64 i ∧ i ≤ k ∧ Hid (q = min i t) ∧ Hid (w7.ownsRow w5.heap.size 3 1 (.slice (some ⟨w5.heap.size, 0, none⟩) W W) W ((outL pv M' W q).map (Value.int .i64))) ∧ Hid (Below w5.heap.size w5 w7) ∧ Hid (∀ a, a < i → t ≤ a → M' a W = 0)) (fun x _ => k - (intOf x).toNat)
      case atStart => exact ⟨0, 0, rfl, Nat.zero_le _, Lib.hid (by omega), O6, B6, Lib.hid (fun a ha => absurd ha (by omega))⟩
      case round =>
        obtain ⟨i, q, rfl, hik, hqq, O7, B7, E⟩ := hrel
        by_cases hi : i < k
        · have m7 : wr.cell? ⟨g, i, none⟩ = some (.slice (some ⟨bs5 i, 0, none⟩) (W + 1) (ks5 i)) := (B7.out.cell (p := ⟨g, i, none⟩) (show g < w5.heap.size by have := MP.out.lo.1; omega)).trans (MP.out.out i hi)
          have r7 : wr.cell? ⟨bs5 i, W, none⟩ = some (.int .i64 (M' i W)) := (B7.out.cell (p := ⟨bs5 i, W, none⟩) (show bs5 i < w5.heap.size by have := MP.out.lo.2 i hi; omega)).trans (MP.out.row i W hi (by omega))
          obtain ⟨v, hv⟩ : ∃ v, M' i W = v := ⟨_, rfl⟩
          rw [hv] at r7
          by_cases hit : i < t
          · obtain ⟨gp, rfl⟩ := own_form OP.out (by omega)
            have hp := RD.out.lt i (by rw [ht.out]; exact hit)
            have p7 : wr.cell? ⟨gp, i, none⟩ = some (.int .i64 ((pv.getD i 0 : Nat) : Int)) := (B7.out.cell (p := ⟨gp, i, none⟩) (OP.out.lt gp rfl).2).trans (by
              rw [OP.out.cellAt i (by omega), List.getElem?_map]
              have hl := ht.out
              rw [List.getElem?_eq_getElem (by omega)]
              simp [List.getD, List.getElem?_eq_getElem (show i < pv.length by omega)])
            obtain ⟨p, hpp⟩ : ∃ p, pv.getD i 0 = p := ⟨_, rfl⟩
            have hp : p < W := by rw [← hpp]; exact hp
            have hqi : q = i := by have := hqq.out; omega
            subst hqi
            have S := (show World.ownsRow wr.drew w5.heap.size 3 1 (.slice (some ⟨w5.heap.size, 0, none⟩) W W) W ((outL pv M' W q).map (Value.int .i64)) from O7.out).stored p (.int .i64 v)
            rw [← List.map_set, ← hv, ← hpp, outL_set, hpp, hv] at S
            have c7 := O7.out.cellAt p (by omega)
            have f7 := O7.out.frozenAt p
            rw [List.getElem?_eq_getElem (by simp [outL_len]; omega)] at c7
            obtain ⟨u, hu⟩ : ∃ u, ((outL pv M' W q).map (Value.int .i64))[p]'(by simp [outL_len]; omega) = u := ⟨_, rfl⟩
            rw [hu] at c7
            rw [hpp] at p7
            have X5 := Lib.hid (show ∀ wd, wd = wr.drew → World.ownsRow (wd.setCell ⟨w5.heap.size, p, none⟩ (.int .i64 v)) w5.heap.size 3 1 (.slice (some ⟨w5.heap.size, 0, none⟩) W W) W ((outL pv M' W (q + 1)).map (Value.int .i64)) ∧ Below w5.heap.size w5 (wd.setCell ⟨w5.heap.size, p, none⟩ (.int .i64 v)) ∧ wd.cell? ⟨w5.heap.size, p, none⟩ = some u ∧ wd.frozen? ⟨w5.heap.size, p, none⟩ = false from by
              rintro wd rfl
              exact ⟨S.1, B7.out.drew.setCell (p := ⟨w5.heap.size, p, none⟩) (Nat.le_refl _) _, c7, f7⟩)
            clear S hu c7 f7 hpp hv
            obtain ⟨V, hV⟩ : ∃ V, W + 1 = V := ⟨_, rfl⟩
            rw [hV] at m7
            have hWV : W < V := by omega
            clear hV
            go_wp2_with fail
            go_still_tail 13, (by kernel_rfl)
            change wpList _ _ _ _ _ wr.drew
            generalize hwd : wr.drew = wd
            obtain ⟨Y1, Y2, Y3, Y4⟩ := X5.out wd hwd.symm
            clear hwd
            have Y1 := Lib.hid Y1
            have Y2 := Lib.hid Y2
            go_wp2_with fail
            go_roundw
            case rel => exact ⟨q + 1, q + 1, by go_num, by omega, Lib.hid (by omega), Y1, Y2, Lib.hid (fun a h1 h2 => absurd h1 (by omega))⟩
            case measure => simp [intOf]; omega
          · have hqi : q = t := by have := hqq.out; omega
            subst hqi
            by_cases hv0 : v = 0
            · subst hv0
              have E' : Hid (∀ a, a < i + 1 → q ≤ a → M' a W = 0) := Lib.hid (fun a h1 h2 => by
                rcases Nat.lt_or_ge a i with h3 | h3
                · exact E.out a h3 h2
                · obtain rfl : a = i := by omega
                  exact hv)
              clear hv
              go_wp2_with fail
              go_roundw
              case rel => exact ⟨i + 1, q, by go_num, by omega, Lib.hid (by omega), O7, B7, E'⟩
              case measure => simp [intOf]; omega
            · have t3 : (v != 0) = true := by rw [bne_iff_ne]; exact hv0
              have R := Lib.hid (bad.out i hi (by omega) (by rw [hv]; exact hv0))
              have BZ := Lib.hid (B5w.out.trans (B7.out.mono (by omega)))
              clear hv
              go_wp2_with fail
              go_ret2
              exact solP_no R.out BZ.out
        · obtain rfl : i = k := by omega
          have hqi : q = t := by have := hqq.out; omega
          subst hqi
          obtain ⟨G1, G2⟩ := good.out E.out
          have R := Lib.hid (solP_yes G1 G2 (outL_len _ _ _ _) (own_lower O7.out (show w.heap.size ≤ w5.heap.size by omega)) (B5w.out.trans (B7.out.mono (by omega))))
          clear G1 G2
          go_wp2_with fail
          go_ret2
          exact R.out
end Go.Proofs.Ytkpbaaigopheeaa
