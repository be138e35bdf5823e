/- kmp: awake. -/
import Derived.Test.YtojebaplpfebdaaKmpG
import Derived.Test.YtojebaplpfebdaaSame
namespace Go.Proofs.Ytojebaplpfebdaa
set_option linter.unusedVariables false
set_option linter.unusedSimpArgs false
open Go.RowKit
attribute [local go_sem] S_size S_toList S_append S_extract S_beq S_bne S_empty S_nil u8_beq

theorem sameInts_eq (l1 l2 : List Int) (v1 v2 : Value) (B1 B2 : Nat) (w : World) (h1 : IW w B1 v1 l1) (h2 : IW w B2 v2 l2) (hl1 : (l1.length : Int) ≤ 1000000000) (he : l1 = l2) :
    Calls Try.prog 11 #[v1, v2] w fun e w' => e = .returned (.bool true) ∧ Ext w w' := by
  subst he
  have := sameInts_any l1 l1 v1 v2 B1 B2 w h1 h2 hl1 hl1
  rw [beq_self_eq_true] at this; exact this

set_option maxRecDepth 20000 in
set_option maxHeartbeats 2000000 in
theorem awake30 (w : World) : Calls Try.prog 8 #[] w fun e w' => e = .returned (.bool true) ∧ Ext w w' := by
  have l1 : ByteArray.mk #[98, 97, 110, 97, 110, 97] = S [98, 97, 110, 97, 110, 97] := rfl
  have l2 : ByteArray.mk #[97, 110, 97] = S [97, 110, 97] := rfl
  have l3 : ByteArray.mk #[97, 98, 97, 98] = S [97, 98, 97, 98] := rfl
  have l4 : ByteArray.mk #[97, 97, 97] = S [97, 97, 97] := rfl
  have l5 : ByteArray.mk #[97, 97] = S [97, 97] := rfl
  have l6 : ByteArray.mk #[97, 98] = S [97, 98] := rfl
  have q1 := Lib.hid (fun w => kfind_any [98, 97, 110, 97, 110, 97] [97, 110, 97] 2 w (by decide) (by decide) (by decide))
  have q2 := Lib.hid (fun w => kfind_any [98, 97, 110, 97, 110, 97] [97, 110, 97] 4 w (by decide) (by decide) (by decide))
  rw [show findL [98, 97, 110, 97, 110, 97] [97, 110, 97] (max (2 : Int) 0).toNat = some 3 by decide] at q1
  rw [show findL [98, 97, 110, 97, 110, 97] [97, 110, 97] (max (4 : Int) 0).toNat = none by decide] at q2
  simp only [placeV] at q1 q2
  have q3 := Lib.hid (fun w => fail_any [97, 98, 97, 98] w (by decide))
  rw [show failsL [97, 98, 97, 98] = [0, 0, 1, 2] by decide] at q3
  have q4 := Lib.hid (fun w => kall_any [97, 97, 97] [97, 97] w (by decide) (by decide))
  rw [show placesL [97, 97, 97] [97, 97] = [0, 1] by decide] at q4
  have q5 := Lib.hid (fun w => kall_any [97, 98] [] w (by decide) (by decide))
  rw [show placesL [97, 98] [] = [0, 1, 2] by decide] at q5
  have l7 : ByteArray.mk #[110, 97, 110] = S [110, 97, 110] := rfl
  have l8 : ByteArray.mk #[120] = S [120] := rfl
  have p1 := Lib.hid (fun w => khas_any [98, 97, 110, 97, 110, 97] [110, 97, 110] w (by decide) (by decide))
  rw [show (findL [98, 97, 110, 97, 110, 97] [110, 97, 110] 0).isSome = true by decide] at p1
  have p2 := Lib.hid (fun w => khas_any [98, 97, 110, 97, 110, 97] [120] w (by decide) (by decide))
  rw [show (findL [98, 97, 110, 97, 110, 97] [120] 0).isSome = false by decide] at p2
  have p3 := Lib.hid (fun w => kwalk_any [97, 98, 97, 98] 4 97 w (by decide))
  rw [show walkL [97, 98, 97, 98] 4 97 = 3 by decide, show U8 97 = 97 from rfl] at p3
  go_enter Try.func8, Try.ntmps8
  go_wp2_with fail
  refine (q1.out _).mono ?_
  rintro e w1 ⟨rfl, x1⟩
  go_wp2_with fail
  refine (q2.out _).mono ?_
  rintro e w2 ⟨rfl, x2⟩
  go_wp2_with fail
  refine (q3.out _).mono ?_
  rintro e w3 ⟨v3, rfl, x3, i3⟩
  have X3 := Lib.hid (x1.trans (x2.trans x3))
  have q6 := Lib.hid (sameInts_eq _ _ _ _ _ _ _ (i3.alloc (.cells #[.int .i64 0, .int .i64 0, .int .i64 1, .int .i64 2] 3)) (IW.lit w3 [0, 0, 1, 2] (by decide) 4 rfl #[.int .i64 0, .int .i64 0, .int .i64 1, .int .i64 2] rfl) (by decide) rfl)
  clear x1 x2 x3 i3
  go_wp2_with fail
  refine q6.out.mono ?_
  rintro e w4 ⟨rfl, x4⟩
  have X4 := Lib.hid ((X3.out.alloc _).trans x4)
  clear x4
  go_wp2_with fail
  refine (q4.out _).mono ?_
  rintro e w5 ⟨v5, rfl, x5, i5⟩
  have X5 := Lib.hid (X4.out.trans x5)
  have q7 := Lib.hid (sameInts_eq _ _ _ _ _ _ _ (i5.alloc (.cells #[.int .i64 0, .int .i64 1] 3)) (IW.lit w5 [0, 1] (by decide) 2 rfl #[.int .i64 0, .int .i64 1] rfl) (by decide) rfl)
  clear x5 i5
  go_wp2_with fail
  refine q7.out.mono ?_
  rintro e w6 ⟨rfl, x6⟩
  have X6 := Lib.hid ((X5.out.alloc _).trans x6)
  clear x6
  go_wp2_with fail
  refine (q5.out _).mono ?_
  rintro e w7 ⟨v7, rfl, x7, i7⟩
  have X7 := Lib.hid (X6.out.trans x7)
  have q8 := Lib.hid (sameInts_eq _ _ _ _ _ _ _ (i7.alloc (.cells #[.int .i64 0, .int .i64 1, .int .i64 2] 3)) (IW.lit w7 [0, 1, 2] (by decide) 3 rfl #[.int .i64 0, .int .i64 1, .int .i64 2] rfl) (by decide) rfl)
  clear x7 i7
  go_wp2_with fail
  refine q8.out.mono ?_
  rintro e w8 ⟨rfl, x8⟩
  have X8 := Lib.hid ((X7.out.alloc _).trans x8)
  clear x8
  go_wp2_with fail
  refine (p1.out _).mono ?_
  rintro e w9 ⟨rfl, x9⟩
  go_wp2_with fail
  refine (p2.out _).mono ?_
  rintro e w10 ⟨rfl, x10⟩
  go_wp2_with fail
  refine (p3.out _).mono ?_
  rintro e w11 ⟨rfl, x11⟩
  go_wp2_with fail
  go_ret
  exact ⟨rfl, X8.out.trans (x9.trans (x10.trans x11))⟩
end Go.Proofs.Ytojebaplpfebdaa
