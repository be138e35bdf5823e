/- FmLooks: the law. -/
import Derived.Test.YtlhjbfckcfeikaaFmT
import Derived.Test.YtlhjbfckcfeikaaFmU
namespace Go.Proofs.Ytlhjbfckcfeikaa
set_option linter.unusedVariables false
set_option linter.unusedSimpArgs false
open Go.RowKit
attribute [local go_sem] S_size S_toList S_beq S_bne S_empty S_nil

set_option maxRecDepth 20000 in
set_option maxHeartbeats 16000000 in
theorem fmLooks_law (b0 : ByteArray) (h0 : b0.size ≤ maxLen) (p : Int) (wp : (Lit.int .i64 p).wf = true) (b1 : ByteArray) (h1 : b1.size ≤ maxLen) (at_ n lo hi : Int) (b : UInt8) (w : World) :
    Calls Try.prog 3 #[.string b0, .int .i64 p, .agg #[.string b1, .int .i64 at_, .int .i64 n, .int .i64 lo, .int .i64 hi, .int .u8 (U8 b)]] w fun x w' => x = .returned (.bool true) ∧ Ext w w' := by
  obtain ⟨l, rfl, hsz⟩ := S_ex b0
  rw [← hsz] at h0
  have hb : (l.length : Int) ≤ 9223372036854775807 := by unfold maxLen at h0; omega
  clear hsz h0
  obtain ⟨what, rfl, hsz⟩ := S_ex b1
  rw [← hsz] at h1
  have hb1 : (what.length : Int) ≤ 9223372036854775807 := by unfold maxLen at h1; omega
  clear hsz h1 wp
  have QA := Lib.hid awake39_any
  have RS := Lib.hid rix_size
  have X0 := Lib.hid ((Ext.refl w).alloc (.cells #[.string (S what), .int .i64 at_, .int .i64 n, .int .i64 lo, .int .i64 hi, .int .u8 (U8 b)] 25))
  have B5 := Lib.hid (Blk.new w 25 #[.string (S what), .int .i64 at_, .int .i64 n, .int .i64 lo, .int .i64 hi, .int .u8 (U8 b)])
  by_cases hl : (300 : Int) < (l.length : Int)
  · clear hb1
    go_enter Try.func3, Try.ntmps3
    go_wp2_with fail
    refine (QA.out _).mono ?_
    rintro _ w1 ⟨rfl, x1⟩
    go_wp2
    go_ret
    exact ⟨rfl, X0.out.trans x1⟩
  by_cases hwl : (300 : Int) < (what.length : Int)
  · go_enter Try.func3, Try.ntmps3
    go_wp2_with fail
    refine (QA.out _).mono ?_
    rintro _ w1 ⟨rfl, x1⟩
    go_wp2
    go_ret
    exact ⟨rfl, X0.out.trans x1⟩
  by_cases hok : mayP l p = true ∧ okI l p.toNat = true
  · obtain ⟨hm, ho⟩ := hok
    obtain ⟨q, rfl, hq⟩ := may_some hm
    exact fmLooks_main l what q at_ n lo hi b w hl hwl hm ho
  · have Q1 := Lib.hid (fun w => fnew_no l p w (by omega) hok)
    have Q2 := Lib.hid (fun w => rnew_no l p w (by omega) hok)
    clear hok
    go_enter Try.func3, Try.ntmps3
    go_wp2_with fail
    refine (Q1.out _).mono ?_
    rintro _ w1 ⟨rfl, x1⟩
    have X1 := Lib.hid (X0.out.trans x1)
    clear x1
    go_wp2_with fail
    refine (Q2.out _).mono ?_
    rintro _ w2 ⟨rfl, x2⟩
    have y2 := x2.alloc (.cells #[.string (S []), .slice none 0 0] 33)
    have X2 := Lib.hid (X1.out.trans y2)
    clear x2 y2
    go_wp2_with (refine wpList_store_new rfl 33 (.tmp 9) (.tmp 31) rfl rfl rfl rfl RS.out (by kernel_rfl) ?_; refine Held.go ?_)
    refine ⟨?_⟩
    generalize w2.alloc (.cells #[.string (S []), .slice none 0 0] 33) = w3 at *
    go_wp2_with fail
    refine (QA.out _).mono ?_
    rintro _ w4 ⟨rfl, x4⟩
    go_wp2
    go_ret
    exact ⟨rfl, X2.out.trans x4⟩
end Go.Proofs.Ytlhjbfckcfeikaa
