/- The comparisons of lists, of the program and of the reference. -/
import Derived.Test.YtojcnncaccnpeaaTob
namespace Go.Proofs.Ytojcnncaccnpeaa
open Go.RowKit Go.PlainNum

theorem cmpInt_any (x y : Int) (w : World) : Calls Try.prog 23 #[.int .i64 x, .int .i64 y] w fun e w' => e = .returned (.int .i64 (if x < y then -1 else if y < x then 1 else 0)) ∧ w = w' := by
  have t1 : (x != x) = false := by simp
  have t2 : (y != y) = false := by simp
  by_cases h1 : x < y
  · have R : Hid ((if x < y then (-1 : Int) else if y < x then 1 else 0) = -1) := Lib.hid (if_pos h1)
    rw [R.out]
    have u1 : decide (x < y) = true := decide_eq_true h1
    go_enter Try.func23, Try.ntmps23
    go_wp2
    go_ret
    exact ⟨rfl, rfl⟩
  · have u1 : decide (x < y) = false := decide_eq_false h1
    by_cases h2 : y < x
    · have R : Hid ((if x < y then (-1 : Int) else if y < x then 1 else 0) = 1) := Lib.hid (by rw [if_neg h1, if_pos h2])
      rw [R.out]
      have u2 : decide (x > y) = true := decide_eq_true h2
      go_enter Try.func23, Try.ntmps23
      go_wp2
      go_ret
      exact ⟨rfl, rfl⟩
    · have R : Hid ((if x < y then (-1 : Int) else if y < x then 1 else 0) = 0) := Lib.hid (by rw [if_neg h1, if_neg h2])
      rw [R.out]
      have u2 : decide (x > y) = false := decide_eq_false h2
      go_enter Try.func23, Try.ntmps23
      go_wp2
      go_ret
      exact ⟨rfl, rfl⟩

set_option maxRecDepth 100000 in
set_option maxHeartbeats 2000000 in
theorem compare_any (B : Nat) (A C : Option Addr) (n m c d : Nat) (xs ys : List Int) (w : World) (h : Rd w B A n xs) (h' : Rd w B C m ys) (hn : (n : Int) ≤ 4000000) (hm : (m : Int) ≤ 4000000) :
    Calls Try.prog 20 #[.slice A n c, .slice C m d] w fun e w' => e = .returned (.int .i64 (cmpV xs ys)) ∧ w = w' := by
  have l1 := h.1
  have l2 := h'.1
  have H := Lib.hid h
  have H' := Lib.hid h'
  clear h h'
  go_enter Try.func20, Try.ntmps20
  go_wp2_with fail
  go_loop [11] (fun i => ∃ k : Nat, i = .int .i64 k ∧ k ≤ n ∧ k ≤ m ∧ Hid (cmpV (xs.drop k) (ys.drop k) = cmpV xs ys)) (fun i => n - (intOf i).toNat)
  case atStart => exact ⟨0, rfl, Nat.zero_le _, Nat.zero_le _, Lib.hid rfl⟩
  case round =>
    obtain ⟨k, rfl, hk, hk2, E⟩ := hrel
    by_cases hlt : k < n
    · obtain ⟨b, off, rfl, hb, hc⟩ := H.out.2 (by omega)
      have c1 := hc k hlt
      by_cases hlt2 : k < m
      · obtain ⟨b', off', rfl, hb', hc'⟩ := H'.out.2 (by omega)
        have c2 := hc' k hlt2
        have t1 : decide ((k : Int) ≥ (m : Int)) = false := decide_eq_false (by omega)
        have NE := Lib.hid (cmpV_ne xs ys k (by omega) (by omega))
        have EQ := Lib.hid (cmpV_step xs ys k (by omega) (by omega))
        obtain ⟨x, hx⟩ : ∃ x, xs.getD k 0 = x := ⟨_, rfl⟩
        obtain ⟨y, hy⟩ : ∃ y, ys.getD k 0 = y := ⟨_, rfl⟩
        rw [hx] at c1 NE EQ
        rw [hy] at c2 NE EQ
        clear hc hc' hx hy
        obtain ⟨r, hr⟩ : ∃ r : Int, (if x < y then (-1 : Int) else if y < x then 1 else 0) = r := ⟨_, rfl⟩
        have cc := fun v => cmpInt_any x y v
        rw [hr] at cc NE
        have cc := Lib.hid cc
        by_cases hxy : x = y
        · subst hxy
          have hr0 : r = 0 := by rw [← hr, if_neg (by omega), if_neg (by omega)]
          subst hr0
          have E' := Lib.hid ((EQ.out rfl).symm.trans E.out)
          clear hr
          go_wp2_with (go_at_call 23; refine (cc.out _).mono ?_; rintro e w' ⟨rfl, rfl⟩)
          go_round
          case rel => exact ⟨k + 1, by go_num, by omega, by omega, E'⟩
          case measure => simp [intOf]; omega
        · have hr0 : r ≠ 0 := by
            rw [← hr]
            by_cases h : x < y
            · rw [if_pos h]; omega
            · rw [if_neg h, if_pos (by omega)]; omega
          have t2 : (r != 0) = true := by rw [bne_iff_ne]; exact hr0
          have R := Lib.hid ((NE.out hxy).symm.trans E.out)
          clear hr0 hr
          go_wp2_with (go_at_call 23; refine (cc.out _).mono ?_; rintro e w' ⟨rfl, rfl⟩)
          go_ret
          exact ⟨by rw [← R.out]; rfl, rfl⟩
      · have t1 : decide ((k : Int) ≥ (m : Int)) = true := decide_eq_true (by omega)
        have R : Hid (cmpV xs ys = 1) := Lib.hid (by rw [← E.out]; exact cmpV_end1 xs ys k (by omega) (by omega))
        clear hc
        go_wp2_with fail
        go_ret
        exact ⟨by rw [R.out]; rfl, rfl⟩
    · by_cases hnm : n < m
      · have t1 : decide ((n : Int) < (m : Int)) = true := decide_eq_true (by omega)
        have R : Hid (cmpV xs ys = -1) := Lib.hid (by rw [← E.out]; exact cmpV_end2 xs ys k (by omega) (by omega))
        go_wp2_with fail
        go_ret
        exact ⟨by rw [R.out]; rfl, rfl⟩
      · have t1 : decide ((n : Int) < (m : Int)) = false := decide_eq_false (by omega)
        have R : Hid (cmpV xs ys = 0) := Lib.hid (by rw [← E.out]; exact cmpV_end3 xs ys k (by omega) (by omega))
        go_wp2_with fail
        go_ret
        exact ⟨by rw [R.out]; rfl, rfl⟩

/-- the closure: the second list compared to the first -/
theorem clos_any (B : Nat) (A C : Option Addr) (n m c d : Nat) (xs ys : List Int) (r : Int) (hr : cmpV ys xs = r) (w : World) (h : Rd w B A n xs) (h' : Rd w B C m ys) (hn : (n : Int) ≤ 4000000) (hm : (m : Int) ≤ 4000000) :
    Calls Try.prog 19 #[.slice A n c, .slice C m d] w fun e w' => e = .returned (.int .i64 r) ∧ w = w' := by
  subst hr
  go_enter Try.func19, Try.ntmps19
  go_wp2_with fail
  refine (compare_any B C A m n d c ys xs _ h' h hm hn).mono ?_
  rintro e w' ⟨rfl, rfl⟩
  go_wp2_with fail
  go_ret
  exact ⟨rfl, rfl⟩
theorem quiet_srt {P : Program} {f : FuncId} {args : Array Value} {w : World} {n : Nat} {v : Value}
    (h : Calls P f args (w.drewN n) fun e w' => e = .returned v ∧ w.drewN n = w') : Calls P f args (w.drewN n) fun e w'' => e = .returned v ∧ ∃ m, w'' = w.drewN m :=
  h.mono fun _ _ ⟨he, hm⟩ => ⟨he, n, hm.symm⟩

set_option maxRecDepth 100000 in
set_option maxHeartbeats 2000000 in
theorem l2Less_any (A C : Option Addr) (n m c d : Nat) (xs ys : List Int) (w : World) (h : Rd w w.heap.size A n xs) (h' : Rd w w.heap.size C m ys) (hn : (n : Int) ≤ 4000000) (hm : (m : Int) ≤ 4000000) :
    Calls Try.prog 16 #[.slice A n c, .slice C m d] w fun e w' => e = .returned (.bool (ltL xs ys)) ∧ ∃ a, w' = w.drewN a := by
  have l1 := h.1
  have l2 := h'.1
  have H := Lib.hid h
  have H' := Lib.hid h'
  clear h h'
  go_enter Try.func16, Try.ntmps16
  go_wp2_with fail
  go_loopw [5] (fun i wr => ∃ k : Nat, i = .int .i64 k ∧ k ≤ n ∧ k ≤ m ∧ Hid (ltL (xs.drop k) (ys.drop k) = ltL xs ys) ∧ Hid (∃ a, wr = w.drewN a)) (fun i _ => n - (intOf i).toNat)
  case atStart => exact ⟨0, rfl, Nat.zero_le _, Nat.zero_le _, Lib.hid rfl, Lib.hid ⟨0, rfl⟩⟩
  case round =>
    rename_i wr _
    obtain ⟨k, rfl, hk, hk2, E, HW⟩ := hrel
    by_cases hlt : k < n ∧ k < m
    · obtain ⟨hlt, hlt2⟩ := hlt
      obtain ⟨b, off, rfl, hb, hc⟩ := H.out.2 (by omega)
      obtain ⟨b', off', rfl, hb', hc'⟩ := H'.out.2 (by omega)
      have c1 : wr.cell? ⟨b, off + k, none⟩ = some (.int .i64 (xs.getD k 0)) := by obtain ⟨a, ha⟩ := HW.out; rw [ha]; exact hc k hlt
      have c2 : wr.cell? ⟨b', off' + k, none⟩ = some (.int .i64 (ys.getD k 0)) := by obtain ⟨a, ha⟩ := HW.out; rw [ha]; exact hc' k hlt2
      have u1 : decide ((k : Int) < (n : Int)) = true := decide_eq_true (by omega)
      have u2 : decide ((k : Int) < (m : Int)) = true := decide_eq_true (by omega)
      have NE := Lib.hid (ltL_ne xs ys k (by omega) (by omega))
      have EQ := Lib.hid (ltL_step xs ys k (by omega) (by omega))
      obtain ⟨x, hx⟩ : ∃ x, xs.getD k 0 = x := ⟨_, rfl⟩
      obtain ⟨y, hy⟩ : ∃ y, ys.getD k 0 = y := ⟨_, rfl⟩
      rw [hx] at c1 NE EQ
      rw [hy] at c2 NE EQ
      clear hc hc' hx hy
      by_cases hxy : x = y
      · subst hxy
        have t2 : (x != x) = false := by simp
        have E' := Lib.hid ((EQ.out rfl).symm.trans E.out)
        go_wp2_with fail
        go_quiet (fail)
        go_wp2_with fail
        go_roundw
        case rel => exact ⟨k + 1, by go_num, by omega, by omega, E', Lib.hid (by obtain ⟨a, ha⟩ := HW.out; rw [ha]; exact ⟨_, World.drewN_drewN _ _ _⟩)⟩
        case measure => simp [intOf]; omega
      · have t2 : (x != y) = true := by rw [bne_iff_ne]; exact hxy
        have R := Lib.hid ((NE.out hxy).symm.trans E.out)
        go_wp2_with fail
        go_quiet (fail)
        go_wp2_with fail
        go_quiet (fail)
        go_wp2_with fail
        go_ret
        exact ⟨by rw [← R.out]; rfl, by obtain ⟨a, ha⟩ := HW.out; rw [ha]; exact ⟨_, (congrArg (fun v : World => v.drewN _) (World.drewN_drewN _ _ _)).trans (World.drewN_drewN _ _ _)⟩⟩
    · have R : Hid (ltL xs ys = decide (xs.length < ys.length)) := Lib.hid (by rw [← E.out, ltL_end xs ys k (by omega) (by omega) (by omega)])
      have R2 : Hid (decide (n < m) = ltL xs ys) := Lib.hid (by rw [R.out, l1, l2])
      by_cases hkn : k < n
      · have u1 : decide ((k : Int) < (n : Int)) = true := decide_eq_true (by omega)
        have u2 : decide ((k : Int) < (m : Int)) = false := decide_eq_false (by omega)
        go_wp2_with fail
        go_ret
        exact ⟨by rw [← R2.out]; rfl, HW.out⟩
      · have u1 : decide ((k : Int) < (n : Int)) = false := decide_eq_false (by omega)
        go_wp2_with fail
        go_ret
        exact ⟨by rw [← R2.out]; rfl, HW.out⟩
end Go.Proofs.Ytojcnncaccnpeaa
