/- Plain: the numbers of trees up to an order. -/
namespace Go.PlainNum
/-- how many trees there are of an order of at most k -/
def ct (k : Nat) : Int := match k with
  | 0 => 0 | 1 => 1 | 2 => 2 | 3 => 4 | 4 => 8 | 5 => 17 | 6 => 37 | _ => 0
/-- what CountTrees returns -/
def ctn (n : Int) : Int := if 0 ≤ n ∧ n ≤ 6 then ct n.toNat else -1
theorem ctn_no (n : Int) (h : ¬ (0 ≤ n ∧ n ≤ 6)) : ctn n = -1 := by unfold ctn; rw [if_neg h]
theorem ctn_yes (k : Nat) (h : k ≤ 6) : ctn k = ct k := by unfold ctn; rw [if_pos (by omega)]; congr 1
theorem ctn_le (n : Int) : ctn n ≤ 37 := by
  unfold ctn; split
  · unfold ct; split <;> omega
  · omega
theorem ctn_ge (n : Int) : -1 ≤ ctn n := by
  unfold ctn; split
  · unfold ct; split <;> omega
  · omega
attribute [irreducible] ctn
end Go.PlainNum
