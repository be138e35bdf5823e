/- varvelaw27: awake. -/
import Derived.Test.YtfcfhaghamgdaaaPickF
import Derived.Test.YtfcfhaghamgdaaaPickH
namespace Go.Proofs.Ytfcfhaghamgdaaa
set_option linter.unusedVariables false
set_option linter.unusedSimpArgs false
open Go.RowKit

theorem three_row : rowP threeL = true := by decide +kernel
theorem three_conf : confP 100 400 1000 50 2 0 0 = true := by decide +kernel
theorem zero_conf : confP 0 0 0 0 0 0 0 = false := by decide +kernel
theorem nil_row : rowP [] = false := by decide +kernel
theorem conf_zero (w : World) : (Instr.build 23 #[]).run Try.prog w = .ok (.agg #[.int .i64 0, .int .i64 0, .int .i64 0, .int .i64 0, .int .i64 0, .int .i64 0, .int .i64 0]) w := by kernel_rfl
attribute [local go_sem] conf_zero
set_option maxRecDepth 20000 in
set_option maxHeartbeats 8000000 in
theorem awake_any (w : World) : Calls Try.prog 6 #[] w fun e w' => e = .returned (.bool true) ∧ Ext w w' := by
  have qc := Lib.hid conf27_any
  have qt := Lib.hid three_any
  have q1 := Lib.hid (fun v w h => wDrop_any 100 400 1000 50 2 0 0 5 threeL v w h)
  have q2 := Lib.hid (fun v w h => wDrop_any 0 0 0 0 0 0 0 5 threeL v w h)
  have q3 := Lib.hid (fun w => wDrop_any 100 400 1000 50 2 0 0 5 [] _ w (RR.nil w))
  have q4 := Lib.hid (wconf_any 100 400 1000 50 2 0 0)
  have q5 := Lib.hid (wFlush_any 100 400 1000 50 2 0 0 100)
  have q6 := Lib.hid (wFlush_any 100 400 1000 50 2 0 0 99)
  have q7 := Lib.hid (wFull_any 100 400 1000 50 2 0 0 900 101 1)
  have q8 := Lib.hid (wFull_any 100 400 1000 50 2 0 0 900 100 1)
  have q9 := Lib.hid (wAged_any 100 400 1000 50 2 0 0 5 55)
  have q10 := Lib.hid (wAged_any 100 400 1000 50 2 0 0 5 54)
  have q11 := Lib.hid (fun v w h => wSum_any threeL v w h)
  rw [show dropI 100 400 1000 50 2 0 0 5 threeL = 1 by decide +kernel, show dropE 100 400 1000 50 2 0 0 threeL = 0 by decide +kernel] at q1
  rw [show dropI 0 0 0 0 0 0 0 5 threeL = 0 by decide +kernel, show dropE 0 0 0 0 0 0 0 threeL = 270 by decide +kernel] at q2
  rw [show dropI 100 400 1000 50 2 0 0 5 [] = 0 by decide +kernel, show dropE 100 400 1000 50 2 0 0 [] = 240 by decide +kernel] at q3
  rw [show errC (confP 100 400 1000 50 2 0 0) = 0 by decide +kernel] at q4
  rw [show flushP 100 400 1000 50 2 0 0 100 = true by decide +kernel] at q5
  rw [show flushP 100 400 1000 50 2 0 0 99 = false by decide +kernel] at q6
  rw [show fullP 100 400 1000 50 2 0 0 900 101 1 = true by decide +kernel] at q7
  rw [show fullP 100 400 1000 50 2 0 0 900 100 1 = false by decide +kernel] at q8
  rw [show agedP 100 400 1000 50 2 0 0 5 55 = true by decide +kernel] at q9
  rw [show agedP 100 400 1000 50 2 0 0 5 54 = false by decide +kernel] at q10
  rw [show sumP threeL = 300 by decide +kernel] at q11
  go_enter Try.func6, Try.ntmps6
  go_wp2_with fail
  refine (qc.out _).mono ?_
  rintro _ w1 ⟨rfl, x1⟩
  go_wp2_with fail
  refine (qt.out _).mono ?_
  rintro _ w2 ⟨v2, rfl, x2, i2⟩
  have X2 := Lib.hid (x1.trans x2)
  have I2 := Lib.hid (i2.rr entC_length)
  clear x1 x2 i2
  go_wp2_with fail
  refine (q1.out _ _ I2.out).mono ?_
  rintro _ w3 ⟨rfl, x3⟩
  have X3 := Lib.hid (X2.out.trans x3)
  clear x3 X2 I2 q1
  go_wp2_with fail
  refine (qt.out _).mono ?_
  rintro _ w4 ⟨v4, rfl, x4, i4⟩
  have X4 := Lib.hid (X3.out.trans x4)
  have I4 := Lib.hid (i4.rr entC_length)
  clear x4 i4 X3
  go_wp2_with fail
  refine (q2.out _ _ I4.out).mono ?_
  rintro _ w5 ⟨rfl, x5⟩
  have X5 := Lib.hid (X4.out.trans x5)
  clear x5 X4 I4 q2
  go_wp2_with fail
  refine (qc.out _).mono ?_
  rintro _ w6 ⟨rfl, x6⟩
  have X6 := Lib.hid (X5.out.trans x6)
  clear x6 X5
  go_wp2_with fail
  refine (q3.out _).mono ?_
  rintro _ w7 ⟨rfl, x7⟩
  have X7 := Lib.hid (X6.out.trans x7)
  clear x7 X6 q3
  go_wp2_with fail
  refine (qc.out _).mono ?_
  rintro _ w8 ⟨rfl, x8⟩
  have X8 := Lib.hid (X7.out.trans x8)
  clear x8 X7
  go_wp2_with fail
  refine (q4.out _).mono ?_
  rintro _ w9 ⟨rfl, x9⟩
  have X9 := Lib.hid (X8.out.trans x9)
  clear x9 X8
  go_wp2_with fail
  refine (qc.out _).mono ?_
  rintro _ w10 ⟨rfl, x10⟩
  have X10 := Lib.hid (X9.out.trans x10)
  clear x10 X9
  go_wp2_with fail
  refine (q5.out _).mono ?_
  rintro _ w11 ⟨rfl, x11⟩
  have X11 := Lib.hid (X10.out.trans x11)
  clear x11 X10
  go_wp2_with fail
  refine (qc.out _).mono ?_
  rintro _ w12 ⟨rfl, x12⟩
  have X12 := Lib.hid (X11.out.trans x12)
  clear x12 X11
  go_wp2_with fail
  refine (q6.out _).mono ?_
  rintro _ w13 ⟨rfl, x13⟩
  have X13 := Lib.hid (X12.out.trans x13)
  clear x13 X12
  go_wp2_with fail
  refine (qc.out _).mono ?_
  rintro _ w14 ⟨rfl, x14⟩
  have X14 := Lib.hid (X13.out.trans x14)
  clear x14 X13
  go_wp2_with fail
  refine (q7.out _).mono ?_
  rintro _ w15 ⟨rfl, x15⟩
  have X15 := Lib.hid (X14.out.trans x15)
  clear x15 X14
  go_wp2_with fail
  refine (qc.out _).mono ?_
  rintro _ w16 ⟨rfl, x16⟩
  have X16 := Lib.hid (X15.out.trans x16)
  clear x16 X15
  go_wp2_with fail
  refine (q8.out _).mono ?_
  rintro _ w17 ⟨rfl, x17⟩
  have X17 := Lib.hid (X16.out.trans x17)
  clear x17 X16
  go_wp2_with fail
  refine (qc.out _).mono ?_
  rintro _ w18 ⟨rfl, x18⟩
  have X18 := Lib.hid (X17.out.trans x18)
  clear x18 X17
  go_wp2_with fail
  refine (q9.out _).mono ?_
  rintro _ w19 ⟨rfl, x19⟩
  have X19 := Lib.hid (X18.out.trans x19)
  clear x19 X18
  go_wp2_with fail
  refine (qc.out _).mono ?_
  rintro _ w20 ⟨rfl, x20⟩
  have X20 := Lib.hid (X19.out.trans x20)
  clear x20 X19
  go_wp2_with fail
  refine (q10.out _).mono ?_
  rintro _ w21 ⟨rfl, x21⟩
  have X21 := Lib.hid (X20.out.trans x21)
  clear x21 X20
  go_wp2_with fail
  refine (qt.out _).mono ?_
  rintro _ w22 ⟨v22, rfl, x22, i22⟩
  have X22 := Lib.hid (X21.out.trans x22)
  have I22 := Lib.hid (i22.rr entC_length)
  clear x22 i22 X21
  go_wp2_with fail
  refine (q11.out _ _ I22.out).mono ?_
  rintro _ w23 ⟨rfl, x23⟩
  have X23 := Lib.hid (X22.out.trans x23)
  clear x23 X22
  go_wp2
  go_ret
  exact ⟨rfl, X23.out⟩
end Go.Proofs.Ytfcfhaghamgdaaa
