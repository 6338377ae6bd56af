/- The walk of the law FnExactParseNumber. -/
import Derived.Test.YtjlcmafeemdneaaParseI
namespace Go.Proofs.Ytjlcmafeemdneaa.fnExactParseNumber
open Go.RowKit Go.PlainNum Go.Proofs.Ytjlcmafeemdneaa
set_option linter.unusedVariables false

set_option maxRecDepth 100000 in
set_option maxHeartbeats 1000000 in
theorem walk (a0 : ByteArray) (w : World) (w0 : a0.size ≤ maxLen) (m : Int) (hm : w.cell? ⟨0, 0, none⟩ = some (.int .i64 m)) :
    Calls Try.prog 10 #[.string a0] w fun e w' => e = .returned (.bool true) ∧ Below w.heap.size w w' := by
  by_cases hn : a0.size ≤ 1048576
  · have t0 : decide ((a0.size : Int) > 1048576) = false := decide_eq_false (by omega)
    have t1 : decide (1048576 < (a0.size : Int)) = false := decide_eq_false (by omega)
    have cs := sparse_any a0 w (by omega)
    rw [psr_pir] at cs
    obtain ⟨v, hv⟩ : ∃ v, (pir a0.data.toList).1 = v := ⟨_, rfl⟩
    obtain ⟨b, hb⟩ : ∃ b, (pir a0.data.toList).2 = b := ⟨_, rfl⟩
    rw [hv, hb] at cs
    have cs := Lib.hid cs
    have hv := Lib.hid hv
    have hb := Lib.hid hb
    have hm := Lib.hid hm
    go_enter Try.func10, Try.ntmps10
    go_wp2_with (go_at_call 44; refine cs.out.mono ?_; rintro e w1 ⟨rfl, B1⟩)
    refine (parse_any a0 m _ (by omega) (keepC B1 hm.out)).mono ?_
    rintro e w2 ⟨rfl, B2⟩
    rw [hv.out, hb.out]
    cases b
    · go_wp2_with fail
      go_ret
      exact ⟨rfl, B1.trans (B2.mono B1.size)⟩
    · go_wp2_with fail
      go_ret
      exact ⟨rfl, B1.trans (B2.mono B1.size)⟩
  · have t0 : decide ((a0.size : Int) > 1048576) = true := decide_eq_true (by omega)
    have t1 : decide (1048576 < (a0.size : Int)) = true := decide_eq_true (by omega)
    have t2 : 1048576 < a0.size := by omega
    go_enter Try.func10, Try.ntmps10
    go_wp2_with fail
    go_ret
    exact ⟨rfl, Below.refl _ _⟩
end Go.Proofs.Ytjlcmafeemdneaa.fnExactParseNumber
