/- KmpLooks, KmpSteps: the laws. -/
import Derived.Test.YtojebaplpfebdaaKmpH
import Derived.OpenShut
namespace Go.Proofs.Ytojebaplpfebdaa
set_option linter.unusedVariables false
set_option linter.unusedSimpArgs false
open Go.RowKit
attribute [local go_sem] S_size S_toList S_append S_extract S_beq S_bne S_empty S_nil u8_beq

set_option maxRecDepth 20000 in
set_option maxHeartbeats 2000000 in
theorem kmpLooks_out (s what : List UInt8) (n : Int) (w : World) (h : (2000 : Int) < (s.length : Int) ∨ (¬ (2000 : Int) < (s.length : Int) ∧ (500 : Int) < (what.length : Int))) :
    Calls Try.prog 3 #[.string (S s), .string (S what), .int .i64 n] w fun e w' => e = .returned (.bool true) ∧ Ext w w' := by
  rcases h with h1 | ⟨h1, h2⟩
  all_goals
    go_enter Try.func3, Try.ntmps3
    go_wp2_with fail
    refine (awake30 _).mono ?_
    rintro e w' ⟨rfl, hx⟩
    go_wp2
    go_ret
    exact ⟨rfl, hx⟩

set_option maxRecDepth 20000 in
set_option maxHeartbeats 4000000 in
theorem kmpLooks_in (s what : List UInt8) (n : Int) (w : World) (hn9 : n ≤ 9223372036854775807) (h1 : ¬ (2000 : Int) < (s.length : Int)) (h2 : ¬ (500 : Int) < (what.length : Int)) :
    Calls Try.prog 3 #[.string (S s), .string (S what), .int .i64 n] w fun e w' => e = .returned (.bool true) ∧ Ext w w' := by
  have q1 := Lib.hid (fun w => kfind_any s what n w (by omega) (by omega) hn9)
  have q2 := Lib.hid (fun w => rfind_any s what n w (by omega) (by omega))
  have q3 := Lib.hid (fun w => kall_any s what w (by omega) (by omega))
  have q4 := Lib.hid (fun w => rall_any s what w (by omega) (by omega))
  have q5 := Lib.hid (fun w => khas_any s what w (by omega) (by omega))
  have q6 := Lib.hid (fun w => rhas_any s what w (by omega) (by omega))
  have hlen := Lib.hid (show ((placesL s what).length : Int) ≤ 1000000000 by have := placesTo_length s what (s.length + 1); unfold placesL; omega)
  generalize placesL s what = L at q3 q4 hlen
  generalize findL s what (max n 0).toNat = r at q1 q2
  generalize (findL s what 0).isSome = hb at q5 q6
  cases r <;> cases hb
  all_goals
    simp only [placeV] at q1 q2
    go_enter Try.func3, Try.ntmps3
    go_wp2_with fail
    refine (q1.out _).mono ?_
    rintro e w1 ⟨rfl, x1⟩
    go_wp2_with fail
    refine (q2.out _).mono ?_
    rintro e w2 ⟨rfl, rfl⟩
    go_wp2_with fail
    refine (q3.out _).mono ?_
    rintro e w3 ⟨v3, rfl, x3, i3⟩
    have I3 := Lib.hid i3
    have X3 := Lib.hid (x1.trans x3)
    clear i3 x1 x3
    go_wp2_with fail
    refine (q4.out _).mono ?_
    rintro e w4 ⟨v4, rfl, x4, i4⟩
    have I4 := Lib.hid i4
    have q7 := Lib.hid (sameInts_eq _ _ _ _ _ _ _ (I3.out.ext x4) i4 hlen.out rfl)
    have X4 := Lib.hid (X3.out.trans x4)
    clear i4 x4
    go_wp2_with fail
    refine q7.out.mono ?_
    rintro e w5 ⟨rfl, x5⟩
    have X5 := Lib.hid (X4.out.trans x5)
    clear x5
    go_wp2_with fail
    refine (q5.out _).mono ?_
    rintro e w6 ⟨rfl, x6⟩
    go_wp2_with fail
    refine (q6.out _).mono ?_
    rintro e w7 ⟨rfl, rfl⟩
    go_wp2_with fail
    refine (awake30 _).mono ?_
    rintro e w8 ⟨rfl, x8⟩
    go_wp2_with fail
    go_ret
    exact ⟨rfl, X5.out.trans (x6.trans x8)⟩

theorem kmpLooks_law (s : ByteArray) (hs : s.size ≤ maxLen) (what : ByteArray) (hw : what.size ≤ maxLen) (n : Int) (wn : (Lit.int .i64 n).wf = true) (w : World) :
    Calls Try.prog 3 #[.string s, .string what, .int .i64 n] w fun e w' => e = .returned (.bool true) ∧ Below w.heap.size w w' := by
  obtain ⟨s, rfl, _⟩ := S_ex s
  obtain ⟨what, rfl, _⟩ := S_ex what
  have hn : n ≤ 9223372036854775807 := (bounds_i64 wn).2
  by_cases h1 : (2000 : Int) < (s.length : Int)
  · exact kmpLooks_out s what n w (.inl h1)
  by_cases h2 : (500 : Int) < (what.length : Int)
  · exact kmpLooks_out s what n w (.inr ⟨h1, h2⟩)
  exact kmpLooks_in s what n w hn h1 h2

set_option maxRecDepth 20000 in
set_option maxHeartbeats 2000000 in
theorem kmpSteps_out (what : List UInt8) (n b : Int) (w : World) (h : (300 : Int) < (what.length : Int)) :
    Calls Try.prog 4 #[.string (S what), .int .i64 n, .int .u8 b] w fun e w' => e = .returned (.bool true) ∧ Ext w w' := by
  go_enter Try.func4, Try.ntmps4
  go_wp2_with fail
  refine (awake30 _).mono ?_
  rintro e w' ⟨rfl, hx⟩
  go_wp2
  go_ret
  exact ⟨rfl, hx⟩

set_option maxRecDepth 20000 in
set_option maxHeartbeats 4000000 in
theorem kmpSteps_in (what : List UInt8) (n : Int) (b : UInt8) (w : World) (h : ¬ (300 : Int) < (what.length : Int)) :
    Calls Try.prog 4 #[.string (S what), .int .i64 n, .int .u8 (U8 b)] w fun e w' => e = .returned (.bool true) ∧ Ext w w' := by
  have q1 := Lib.hid (fun w => fail_any what w (by omega))
  have q2 := Lib.hid (fun w => rfail_any what w (by omega))
  have q3 := Lib.hid (fun w => kwalk_any what n b w (by omega))
  have q4 := Lib.hid (fun w => rwalk_any what n b w (by omega))
  have hlen := Lib.hid (show ((failsL what).length : Int) ≤ 1000000000 by rw [failsL_length]; omega)
  generalize failsL what = L at q1 q2 hlen
  generalize walkL what n b = r at q3 q4
  go_enter Try.func4, Try.ntmps4
  go_wp2_with fail
  refine (q1.out _).mono ?_
  rintro e w3 ⟨v3, rfl, x3, i3⟩
  have I3 := Lib.hid i3
  have X3 := Lib.hid x3
  clear i3 x3
  go_wp2_with fail
  refine (q2.out _).mono ?_
  rintro e w4 ⟨v4, rfl, x4, i4⟩
  have I4 := Lib.hid i4
  have q7 := Lib.hid (sameInts_eq _ _ _ _ _ _ _ (I3.out.ext x4) i4 hlen.out rfl)
  have X4 := Lib.hid (X3.out.trans x4)
  clear i4 x4
  go_wp2_with fail
  refine q7.out.mono ?_
  rintro e w5 ⟨rfl, x5⟩
  have X5 := Lib.hid (X4.out.trans x5)
  clear x5
  go_wp2_with fail
  refine (q3.out _).mono ?_
  rintro e w6 ⟨rfl, x6⟩
  go_wp2_with fail
  refine (q4.out _).mono ?_
  rintro e w7 ⟨rfl, x7⟩
  go_wp2_with fail
  refine (awake30 _).mono ?_
  rintro e w8 ⟨rfl, x8⟩
  go_wp2_with fail
  go_ret
  exact ⟨rfl, X5.out.trans (x6.trans (x7.trans x8))⟩

theorem u8_of_int (n : Int) (h : 0 ≤ n ∧ n < 256) : ∃ c : UInt8, n = U8 c := by
  refine ⟨UInt8.ofNat n.toNat, ?_⟩
  unfold U8; rw [UInt8.toNat_ofNat']; omega

theorem kmpSteps_law (what : ByteArray) (hw : what.size ≤ maxLen) (n : Int) (wn : (Lit.int .i64 n).wf = true) (b : Int) (wb : (Lit.int .u8 b).wf = true) (w : World) :
    Calls Try.prog 4 #[.string what, .int .i64 n, .int .u8 b] w fun e w' => e = .returned (.bool true) ∧ Below w.heap.size w w' := by
  obtain ⟨what, rfl, _⟩ := S_ex what
  have hb := bounds_u8 wb
  obtain ⟨c, rfl⟩ := u8_of_int b (by omega)
  by_cases h2 : (300 : Int) < (what.length : Int)
  · exact kmpSteps_out what n _ w h2
  exact kmpSteps_in what n c w h2
end Go.Proofs.Ytojebaplpfebdaa
