/- The walk of the law FnNumberText. -/
import Derived.Test.YtjlcmafeemdneaaDoorParseNs
import Derived.Test.YtjlcmafeemdneaaDoorCrumb
import Derived.Test.YtjlcmafeemdneaaDoorPlainBack
import Derived.Test.YtjlcmafeemdneaaDoorFmts
import Derived.Test.YtjlcmafeemdneaaDoorHelp
namespace Go.Proofs.YtjlcmafeemdneaaDoor.fnNumberText
open Go.RowKit Go.PlainNum Go.Proofs.YtjlcmafeemdneaaDoor
set_option linter.unusedVariables false

theorem Below.step1 {w w1 : World} (o : Obj) (h : Below (w.alloc o).heap.size (w.alloc o) w1) : Below w.heap.size w w1 := ((Below.refl _ _).alloc (Nat.le_refl _) o).trans (h.mono (by simp))
theorem rdB_below {w w' : World} {A : Option Addr} {n : Nat} (h : RdB w w.heap.size A n) (hb : Below w.heap.size w w') : RdB w' w'.heap.size A n := by
  intro hn
  obtain ⟨b, off, e, hlt, hc⟩ := h hn
  refine ⟨b, off, e, Nat.lt_of_lt_of_le hlt hb.size, fun j hj => ?_⟩
  obtain ⟨x, h0, h1, hx⟩ := hc j hj
  exact ⟨x, h0, h1, (hb.cell (p := ⟨b, off + j, none⟩) hlt).trans hx⟩
theorem own_rd2 {w : World} {b n cap : Nat} {A : Option Addr} {zs : List Int} (h : w.ownsRow b 3 1 (.slice A n cap) n (zs.map (Value.int .i64))) : Rd w w.heap.size A n zs := own_rd h
theorem fr_at (x y a b n : Int) (hx : Value.int .i64 x = .int .i64 a) (hy : Value.int .i64 y = .int .i64 b) (h : fr a b = n) (w : World) :
    Calls Tryd.prog 20 #[.int .i64 x, .int .i64 y] w fun e w' => e = .returned (.int .i64 n) ∧ w = w' := by
  obtain rfl : x = a := by simpa using hx
  obtain rfl : y = b := by simpa using hy
  exact fr_is x y n h w
theorem sfmt_at (x a : Int) (F : List UInt8) (hx : Value.int .i64 x = .int .i64 a) (h : fmtL a = F) (w : World) :
    Calls Tryd.prog 21 #[.int .i64 x] w fun e w' => e = .returned (.string (S F)) ∧ Below w.heap.size w w' := by
  obtain rfl : x = a := by simpa using hx
  rw [← h]
  exact sfmt_any x w
theorem times_is (a b x : Int) (h : res (a * b) = x) (w : World) :
    Calls Tryd.prog 12 #[.int .i64 a, .int .i64 b] w fun e w' => e = .returned (.int .i64 x) ∧ w = w' := by
  rw [← h]
  exact stimes_any a b w

set_option maxRecDepth 100000 in
set_option maxHeartbeats 2000000 in
theorem walk (a0 : Option Addr) (len0 cap0 : Nat) (z0 : List Int) (w : World) (w0 : IsRow .u8 w a0 len0 cap0 z0) (m : Int) (hm : w.cell? ⟨0, 0, none⟩ = some (.int .i64 m)) :
    Calls Tryd.prog 4 #[.slice a0 len0 cap0] w fun e w' => e = .returned (.bool true) ∧ Below w.heap.size w w' := by
  have hlen : (len0 : Int) ≤ 9223372036854775807 := by
    rcases w0 with ⟨_, h, _⟩ | ⟨x, _, hl, hm, _⟩
    · omega
    · unfold maxLen at hm; omega
  have R0 := Lib.hid w0.rdB
  clear w0
  by_cases hb : (len0 : Int) ≤ 1048576
  · have D := Lib.hid (show decide ((len0 : Int) > 1048576) = false from decide_eq_false (by omega))
    have hm := Lib.hid hm
    go_enter Tryd.func4, Tryd.ntmps4
    go_wp2_with (go_at_call 10; refine (big_any _ _ _ _ _ D.out).mono ?_; rintro e w' ⟨rfl, rfl⟩)
    refine (drawIntegers_any _ _ _ _ R0.out (by omega)).mono ?_
    rintro e w1 ⟨a, b, c, rfl, ha, hb', hc, B1⟩
    have hx0 := res_lo (a * 1)
    have hx1 := res_hi (a * 1)
    have hy0 := res_lo (b * 1)
    have hy1 := res_hi (b * 1)
    obtain ⟨x, hx⟩ : ∃ x, res (a * 1) = x := ⟨_, rfl⟩
    obtain ⟨y, hy⟩ : ∃ y, res (b * 1) = y := ⟨_, rfl⟩
    rw [hx] at hx0 hx1
    rw [hy] at hy0 hy1
    have hx := Lib.hid hx
    have hy := Lib.hid hy
    have PX := Lib.hid (pir_fmt x ⟨hx0, hx1⟩)
    have PT := Lib.hid (two_back x y ⟨hx0, hx1⟩ ⟨hy0, hy1⟩)
    have fx := fmtL_len x
    have fy := fmtL_len y
    have hm1 := Lib.hid (keepC B1 hm.out)
    go_wp2_with (go_at_call 12; refine (times_is a 1 x hx.out _).mono ?_; rintro e w' ⟨rfl, rfl⟩)
    refine (fmt_F x _ rfl _).mono ?_
    rintro e w' ⟨rfl, rfl⟩
    go_wp2_with fail
    refine (parse_is (fmtL x) x true PX.out m _ (by omega) hm1.out).mono ?_
    rintro e w2 ⟨rfl, B2⟩
    have X2 := Lib.hid (B1.trans (B2.mono B1.size))
    have hm2 := Lib.hid (keepC B2 hm1.out)
    go_wp2_with (go_at_call 12; refine (times_is b 1 y hy.out _).mono ?_; rintro e w' ⟨rfl, rfl⟩)
    have hT := preT_len [x, y] 2 (by simp)
    have FM : fms [x, y] = preT [x, y] 2 := fms_yes (allNum_yes [x, y] (fun j hj => by
      rcases (show j = 0 ∨ j = 1 by simp at hj; omega) with rfl | rfl
      · exact ⟨hx0, hx1⟩
      · exact ⟨hy0, hy1⟩))
    have cF := fms_any (some ⟨w2.heap.size, 0, none⟩) 2 2 [x, y] _ (rd_new w2 _ 3 [x, y] rfl 2 rfl) (by omega)
    rw [FM] at cF
    have cP := fun v hv => parses_any (S (preT [x, y] 2)) m v (by rw [S_size]; omega) hv
    rw [S_toList, PT.out.1, PT.out.2] at cP
    unfold Nums at cP
    rw [show ([x, y] : List Int).length = 2 from rfl] at cP
    obtain ⟨T, hTT⟩ : ∃ T, preT [x, y] 2 = T := ⟨_, rfl⟩
    rw [hTT] at cF cP
    have cF := Lib.hid cF
    have cP := Lib.hid cP
    clear hTT FM hT
    refine cF.out.mono ?_
    rintro e w3 ⟨rfl, B3⟩
    have B3 := Below.step1 _ B3
    have X3 := Lib.hid (X2.out.trans (B3.mono X2.out.size))
    have hm3 := Lib.hid (keepC B3 hm2.out)
    go_wp2_with fail
    refine (cP.out _ hm3.out).mono ?_
    rintro e w4 ⟨A4, c4, rfl, O4, B4⟩
    have s4 := B4.size
    have X4 := Lib.hid (X3.out.trans (B4.mono X3.out.size))
    have hm4 := Lib.hid (keepC B4 hm3.out)
    have O4 := Lib.hid O4
    have R04 : RdB w4 w4.heap.size a0 len0 := rdB_below R0.out X4.out
    go_wp2_with fail
    refine (drawParse_any _ _ _ _ R04 (by omega)).mono ?_
    rintro e w5 ⟨s, rfl, hs, B5⟩
    have X5 := Lib.hid (X4.out.trans (B5.mono X4.out.size))
    have hm5 := Lib.hid (keepC B5 hm4.out)
    have O5 := Lib.hid (own_below O4.out B5)
    obtain ⟨z, hz⟩ : ∃ z, (pir s.data.toList).1 = z := ⟨_, rfl⟩
    obtain ⟨rb, hrb⟩ : ∃ rb, (pir s.data.toList).2 = rb := ⟨_, rfl⟩
    have cI := fun v hv => parse_any s m v (by omega) hv
    have cS := fun v => sparse_any s v (by omega)
    rw [psr_pir] at cS
    rw [hz, hrb] at cI cS
    have cI := Lib.hid cI
    have cS := Lib.hid cS
    have hpz : Hid (pir s.data.toList = (z, rb)) := Lib.hid (by rw [← hz, ← hrb])
    clear hz hrb
    go_wp2_with fail
    refine (cI.out _ hm5.out).mono ?_
    rintro e w6 ⟨rfl, B6⟩
    have X6 := Lib.hid (X5.out.trans (B6.mono X5.out.size))
    have O6 := Lib.hid (own_below O5.out B6)
    go_wp2_with fail
    refine (cS.out _).mono ?_
    rintro e w7 ⟨rfl, B7⟩
    have X7 := Lib.hid (X6.out.trans (B7.mono X6.out.size))
    have O7 := Lib.hid (own_below O6.out B7)
    have R07 := Lib.hid (rdB_below R0.out X7.out)
    go_wp2_with fail
    refine (at0_any _ _ _ _ R07.out (by omega)).mono ?_
    rintro e w' ⟨r, rfl, hr, rfl⟩
    go_wp2_with fail
    obtain ⟨N, hN⟩ : ∃ N : Nat, (1 + (r : Int) % 99) = N := ⟨1 + r % 99, by omega⟩
    have n1 : 1 ≤ N := by omega
    have n99 : N ≤ 99 := by omega
    obtain ⟨q, hq⟩ : ∃ q, fr (100 * N + 1) 100 = q := ⟨_, rfl⟩
    obtain ⟨F2, hF2⟩ : ∃ F2, fmtL (100 * N + 1) = F2 := ⟨_, rfl⟩
    obtain ⟨F, hFF⟩ : ∃ F, F2 ++ [47, 49, 48, 48] = F := ⟨_, rfl⟩
    have hF : Hid (fmtL q = F) := Lib.hid (by rw [← hq, hund N n1 n99, hF2]; exact hFF)
    have l2 := fmtL_len (100 * N + 1)
    rw [hF2] at l2
    have q1 : ∀ v, (Op.stringOp .add (S F2) ⟨#[47, 49, 48, 48]⟩).run Tryd.prog v = .ok (.string (S F)) v := fun v => by
      rw [← hFF]
      exact add_rit v F2 ⟨#[47, 49, 48, 48]⟩ (by simp; omega)
    have hq := Lib.hid hq
    have hF2 := Lib.hid hF2
    rw [hN]
    clear hN l2 hFF
    have X7s := X7.out.size
    cases rb
    · go_wp2_with (first | (go_at_call 12; refine (times_is b 1 y hy.out _).mono ?_; rintro e w' ⟨rfl, rfl⟩) | (go_at_call 19; refine (ints_eq _ _ 2 _ _ [x, y] _ (own_rd2 (O7.out.alloc _)) (rd_new w7 _ 3 [x, y] rfl 2 rfl) (by omega)).mono ?_; rintro e w8 ⟨rfl, B8⟩) | (go_at_call 14; first | (with_reducible refine (fmt_F q F hF.out _).mono ?_; rintro e w' ⟨rfl, rfl⟩) | (with_reducible refine (fmt_is z s hzs.out _).mono ?_; rintro e w' ⟨rfl, rfl⟩)) | (go_at_call 20; refine (fr_at _ _ (100 * N + 1) 100 q (by go_num) (by go_num) hq.out _).mono ?_; rintro e w' ⟨rfl, rfl⟩) | (go_at_call 21; refine (sfmt_at _ (100 * N + 1) F2 (by go_num) hF2.out _).mono ?_; rintro e w9 ⟨rfl, B9⟩))
      go_ret
      have X8 := X7.out.trans ((Below.step1 _ B8).mono X7s)
      exact ⟨rfl, X8.trans (B9.mono X8.size)⟩
    · have hzs := Lib.hid (pir_text hpz.out)
      go_wp2_with (first | (go_at_call 12; refine (times_is b 1 y hy.out _).mono ?_; rintro e w' ⟨rfl, rfl⟩) | (go_at_call 19; refine (ints_eq _ _ 2 _ _ [x, y] _ (own_rd2 (O7.out.alloc _)) (rd_new w7 _ 3 [x, y] rfl 2 rfl) (by omega)).mono ?_; rintro e w8 ⟨rfl, B8⟩) | (go_at_call 14; first | (with_reducible refine (fmt_F q F hF.out _).mono ?_; rintro e w' ⟨rfl, rfl⟩) | (with_reducible refine (fmt_is z s hzs.out _).mono ?_; rintro e w' ⟨rfl, rfl⟩)) | (go_at_call 20; refine (fr_at _ _ (100 * N + 1) 100 q (by go_num) (by go_num) hq.out _).mono ?_; rintro e w' ⟨rfl, rfl⟩) | (go_at_call 21; refine (sfmt_at _ (100 * N + 1) F2 (by go_num) hF2.out _).mono ?_; rintro e w9 ⟨rfl, B9⟩))
      go_ret
      have X8 := X7.out.trans ((Below.step1 _ B8).mono X7s)
      exact ⟨rfl, X8.trans (B9.mono X8.size)⟩
  · have D := Lib.hid (show decide ((len0 : Int) > 1048576) = true from decide_eq_true (by omega))
    go_enter Tryd.func4, Tryd.ntmps4
    go_wp2_with (go_at_call 10; refine (big_any _ _ _ _ _ D.out).mono ?_; rintro e w' ⟨rfl, rfl⟩)
    go_ret
    exact ⟨rfl, Below.refl _ _⟩
end Go.Proofs.YtjlcmafeemdneaaDoor.fnNumberText
