/- FmCounts: the law's walk. -/
import Derived.Test.YtlhjbfckcfeikaaFmS
import Derived.Test.YtlhjbfckcfeikaaKjZ
namespace Go.Proofs.Ytlhjbfckcfeikaa
set_option linter.unusedVariables false
set_option linter.unusedSimpArgs false
open Go.RowKit
attribute [local go_sem] S_size S_toList S_beq S_bne S_empty S_nil

theorem placesL_eq (s what : List UInt8) : placesL s what = toI (plcL s what) := by
  unfold placesL placesTo toI plcL
  congr 1
  refine List.filter_congr fun k hk => ?_
  have hk := List.mem_range.1 hk
  unfold atL
  rw [Bool.eq_iff_iff]
  simp only [Bool.and_eq_true, decide_eq_true_eq, beq_iff_eq]
  have h0 : (s.take (k + what.length)).drop k = (s.drop k).take what.length := by rw [List.drop_take, Nat.add_sub_cancel_left]
  rw [h0, List.prefix_iff_eq_take]
  constructor
  · rintro ⟨_, h⟩; exact h.symm
  · intro h
    refine ⟨?_, h.symm⟩
    have := congrArg List.length h
    rw [List.length_take, List.length_drop] at this
    omega
theorem fwd_may (s : List UInt8) : mayP (fwdL s) (priN s : Int) = true := by
  have hp := (pri_at s).1
  have hl := fwd_length s
  unfold mayP
  by_cases h : fwdL s = []
  · rw [if_pos h]
    have h0 : s.length = 0 := by rw [← hl, h]; rfl
    exact decide_eq_true (by omega)
  · rw [if_neg h]
    have h0 : 0 < s.length := by rw [← hl]; exact List.length_pos_iff.2 h
    have := pri_pos s h0
    exact decide_eq_true (by omega)
theorem part_all (s : List UInt8) : partL s 0 (s.length : Int) = s := by
  unfold partL
  show (s.drop 0).take s.length = s
  rw [List.drop_zero, List.take_of_length_le (Nat.le_refl _)]

set_option maxRecDepth 20000 in
set_option maxHeartbeats 16000000 in
theorem fmCounts_law (b0 : ByteArray) (h0 : b0.size ≤ maxLen) (b1 : ByteArray) (h1 : b1.size ≤ maxLen) (w : World) :
    Calls Try.prog 5 #[.string b0, .string b1] w fun x w' => x = .returned (.bool true) ∧ Ext w w' := by
  obtain ⟨s, rfl, hsz⟩ := S_ex b0
  rw [← hsz] at h0
  have hb : (s.length : Int) ≤ 9223372036854775807 := by unfold maxLen at h0; omega
  clear hsz h0
  obtain ⟨what, rfl, hsz⟩ := S_ex b1
  rw [← hsz] at h1
  have hb1 : (what.length : Int) ≤ 9223372036854775807 := by unfold maxLen at h1; omega
  clear hsz h1
  have QA := Lib.hid awake39_any
  by_cases hl : (2000 : Int) < (s.length : Int)
  · clear hb1
    go_enter Try.func5, Try.ntmps5
    go_wp2_with fail
    refine (QA.out _).mono ?_
    rintro _ w1 ⟨rfl, x1⟩
    go_wp2
    go_ret
    exact ⟨rfl, x1⟩
  by_cases hwl : (2000 : Int) < (what.length : Int)
  · go_enter Try.func5, Try.ntmps5
    go_wp2_with fail
    refine (QA.out _).mono ?_
    rintro _ w1 ⟨rfl, x1⟩
    go_wp2
    go_ret
    exact ⟨rfl, x1⟩
  have hfl := fwd_length s
  have hq : priN s < (fwdL s).length + 1 := by rw [hfl]; exact (pri_at s).1
  have ho := fwd_ok s
  have ht := fwd_txt s
  have Q1 := Lib.hid (fun w => forward_any s w (by omega))
  have Q2 := Lib.hid (fun w => fnew_ok (fwdL s) (priN s) w (by rw [hfl]; omega) (fwd_may s) ho)
  have q3 := fun w => kall_any s what w (by omega) (by omega)
  rw [placesL_eq] at q3
  have Q3 := Lib.hid q3
  have q5 := fun v w h => count_places (fwdL s) (priN s) v what w (by rw [hfl]; omega) (by omega) ho hq h
  have q7 := fun v w h => places_any (fwdL s) (priN s) v what w (by rw [hfl]; omega) (by omega) ho hq h
  have q9 := fun v w h => text_any (fwdL s) (priN s) v 0 (s.length : Int) w (by rw [hfl]; omega) ho hq h
  rw [ht] at q5 q7 q9
  rw [part_all] at q9
  have Q5 := Lib.hid q5
  have Q7 := Lib.hid q7
  have Q9 := Lib.hid q9
  have hpl : (plcL s what).length ≤ 2001 := by
    have := List.length_filter_le (fun p => decide (what <+: s.drop p)) (List.range (s.length + 1))
    rw [List.length_range] at this
    unfold plcL
    omega
  have q8 := fun u v w h1 h2 => sameR_any (toI (plcL s what)) (toI (plcL s what)) u v w h1 h2 (by rw [toI_length]; omega) (by rw [toI_length]; omega)
  rw [show (toI (plcL s what) == toI (plcL s what)) = true from by simp] at q8
  have Q8 := Lib.hid q8
  clear q3 q5 q7 q9 q8 hpl hfl hq ho ht
  have HPL := Lib.hid (toI_length (plcL s what))
  generalize plcL s what = pl at *
  generalize fwdL s = l at *
  generalize priN s = q at *
  go_enter Try.func5, Try.ntmps5
  go_wp2_with fail
  refine (Q1.out _).mono ?_
  rintro _ w1 ⟨rfl, x1⟩
  have X1 := Lib.hid x1
  clear x1
  go_wp2_with fail
  refine (Q2.out _).mono ?_
  rintro _ w2 ⟨v, rfl, x2, i2⟩
  have X2 := Lib.hid (X1.out.trans x2)
  have I2 := Lib.hid i2
  clear x2 i2 X1
  go_wp2_with fail
  refine (Q3.out _).mono ?_
  rintro _ w3 ⟨u, rfl, x3, r3⟩
  have X3 := Lib.hid (X2.out.trans x3)
  have I3 := Lib.hid (I2.out.ext x3)
  have R3 := Lib.hid r3.ri
  obtain ⟨ua, uc, rfl, _, _⟩ := r3.shape
  rw [HPL.out] at R3 ⊢
  clear x3 r3 X2 I2
  go_wp2_with fail
  refine (Q5.out _ _ I3.out).mono ?_
  rintro _ w4 ⟨rfl, x4⟩
  have X4 := Lib.hid (X3.out.trans x4)
  have I4 := Lib.hid (I3.out.ext x4)
  have R4 := Lib.hid (R3.out.ext x4)
  clear x4 X3 I3 R3
  go_wp2_with fail
  refine (Q7.out _ _ I4.out).mono ?_
  rintro _ w5 ⟨u5, rfl, x5, r5⟩
  have X5 := Lib.hid (X4.out.trans x5)
  have I5 := Lib.hid (I4.out.ext x5)
  have R5 := Lib.hid (R4.out.ext x5)
  have S5 := Lib.hid r5
  clear x5 X4 I4 R4 r5
  go_wp2_with fail
  refine (Q8.out _ _ _ S5.out R5.out).mono ?_
  rintro _ w6 ⟨rfl, x6⟩
  have X6 := Lib.hid (X5.out.trans x6)
  have I6 := Lib.hid (I5.out.ext x6)
  clear x6 X5 I5 R5 S5
  go_wp2_with fail
  refine (Q9.out _ _ I6.out).mono ?_
  rintro _ w7 ⟨rfl, x7⟩
  have X7 := Lib.hid (X6.out.trans x7)
  clear x7 X6 I6
  go_wp2_with fail
  refine (QA.out _).mono ?_
  rintro _ w8 ⟨rfl, x8⟩
  have X8 := Lib.hid (X7.out.trans x8)
  clear x8 X7
  go_wp2
  go_ret
  exact ⟨rfl, X8.out⟩
end Go.Proofs.Ytlhjbfckcfeikaa
