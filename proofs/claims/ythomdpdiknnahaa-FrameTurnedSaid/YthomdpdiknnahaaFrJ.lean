/- varvelaw16: awake. -/
import Derived.Test.YthomdpdiknnahaaFrJ0
namespace Go.Proofs.Ythomdpdiknnahaa
set_option linter.unusedVariables false
set_option linter.unusedSimpArgs false
open Go.RowKit
attribute [local go_sem] S_size S_toList S_append S_extract S_beq S_bne S_empty S_nil frame_zero

theorem aw_put : putE 2 2 = 0 := by decide +kernel
theorem aw_len : (putB 2 [97, 98]).length = 11 := by decide +kernel
theorem aw_take : (putB 2 [97, 98]).take 7 = [2, 2, 0, 0, 0, 97, 98] := by decide +kernel
theorem aw_get : getF ([120] ++ putB 2 [97, 98]) 1 = ⟨2, [97, 98], 1, 12⟩ := by decide +kernel
theorem aw_getE : getE ([120] ++ putB 2 [97, 98]) 1 = 0 := by decide +kernel
theorem aw_scan : (scan (putB 2 [97, 98] ++ putB 2 [97, 98] ++ [121]) 0).1.length = 2 ∧ (scan (putB 2 [97, 98] ++ putB 2 [97, 98] ++ [121]) 0).2 = 22 := by decide +kernel
theorem aw_short : getE ((putB 2 [97, 98]).take 10) 0 = 4 ∧ getF ((putB 2 [97, 98]).take 10) 0 = ⟨0, [], 0, 0⟩ := by decide +kernel
theorem aw_b120 : ({ data := #[120] } : ByteArray) = S [120] := rfl
theorem aw_b121 : ({ data := #[121] } : ByteArray) = S [121] := rfl
theorem aw_b7 : ({ data := #[2, 2, 0, 0, 0, 97, 98] } : ByteArray) = S [2, 2, 0, 0, 0, 97, 98] := rfl
theorem aw_bab : ({ data := #[97, 98] } : ByteArray) = S [97, 98] := rfl
theorem aw_bnil : ({ data := #[] } : ByteArray) = S [] := rfl
attribute [local go_sem] aw_b120 aw_b121 aw_b7 aw_bab aw_bnil frame_build
theorem rr_shapeN {α : Type} {f : α → List Value} {s : Nat} {w : World} {v : Value} {l : List α} (h : RR f s w v l) : ∃ a c, v = .slice a l.length c := by
  obtain ⟨a, c, h, _⟩ := h
  exact ⟨a, c, h⟩
set_option maxRecDepth 20000 in
set_option maxHeartbeats 8000000 in
theorem awake16 (w : World) : Calls Try.prog 8 #[] w fun e w' => e = .returned (.bool true) ∧ Ext w w' := by
  have q1 := fun w => fPut_any 2 [97, 98] w (by decide)
  rw [show ([97, 98] : List UInt8).length = 2 from rfl, aw_put] at q1
  have q2 := fun w => fGet_any ([120] ++ putB 2 [97, 98]) 1 w (by simp only [List.length_append, aw_len]; decide)
  rw [aw_get, aw_getE] at q2
  have q3 := fun w => fScan_any (putB 2 [97, 98] ++ putB 2 [97, 98] ++ [121]) 0 w (by simp only [List.length_append, aw_len]; decide)
  rw [aw_scan.2, List.append_assoc] at q3
  have q4 := fun w => fPut_any 5 [] w (by decide)
  rw [show putE 5 ([] : List UInt8).length = 160 from by decide, show putB 5 [] = [] from by decide] at q4
  have q5 := fun w => fGet_any ((putB 2 [97, 98]).take 10) 0 w (by rw [List.length_take, aw_len]; decide)
  rw [aw_short.1, aw_short.2] at q5
  have Q1 := Lib.hid q1
  have Q2 := Lib.hid q2
  have EQ := Lib.hid (frame_same ⟨2, [97, 98], 1, 12⟩)
  have EB := Lib.hid (show ∀ w, (Instr.build 31 #[(0, .int .i64 2), (1, .string (S [97, 98])), (2, .int .i64 1), (3, .int .i64 12)]).run Try.prog w = .ok (.agg (f4C ⟨2, [97, 98], 1, 12⟩).toArray) w from fun w => frame_build 2 1 12 _ w)
  have FZ := Lib.hid (show (#[.int .i64 0, .string (S []), .int .i64 0, .int .i64 0] : Array Value).size = (f4C ⟨2, [97, 98], 1, 12⟩).toArray.size from rfl)
  have FS := Lib.hid (show (Try.prog.info? 31).map (·.size) = some (f4C ⟨2, [97, 98], 1, 12⟩).toArray.size from frame_size)
  have FO := Lib.hid (f4C_all ⟨2, [97, 98], 1, 12⟩)
  have GZ := Lib.hid (show (#[.int .i64 0, .string (S []), .int .i64 0, .int .i64 0] : Array Value).size = (f4C ⟨0, [], 0, 0⟩).toArray.size from rfl)
  have GS := Lib.hid (show (Try.prog.info? 31).map (·.size) = some (f4C ⟨0, [], 0, 0⟩).toArray.size from frame_size)
  have GO := Lib.hid (f4C_all ⟨0, [], 0, 0⟩)
  generalize hfA : (f4C ⟨2, [97, 98], 1, 12⟩).toArray = fA at *
  have HFA := Lib.hid hfA
  clear hfA
  generalize (f4C ⟨0, [], 0, 0⟩).toArray = fB at *
  have Q3 := Lib.hid q3
  have Q4 := Lib.hid q4
  have Q5 := Lib.hid q5
  have Q6 := Lib.hid (show ∀ w, Calls Try.prog 11 #[.string (S [97, 98])] w fun e w' => e = .returned (.int .i64 11) ∧ w = w' from fun w => fSize_any [97, 98] w (by decide))
  have hL := aw_len
  have hT := aw_take
  have hM := aw_scan.1
  clear q1 q2 q3 q4 q5
  rw [List.append_assoc] at hM
  generalize scan (putB 2 [97, 98] ++ (putB 2 [97, 98] ++ [121])) 0 = sc at *
  generalize putB 2 [97, 98] = sA at *
  go_enter Try.func8, Try.ntmps8
  go_wp2_with fail
  refine (Q1.out _).mono ?_
  rintro _ w1 ⟨rfl, x1⟩
  go_wp2_with fail
  refine (Q2.out _).mono ?_
  rintro _ w2 ⟨rfl, x2⟩
  have B2 := Lib.hid (Blk.new w2 31 fA)
  have X2 := Lib.hid ((x1.trans x2).alloc (.cells fA 31))
  clear x1 x2
  go_wp2_with (refine wpList_store_new (cs' := fA) rfl 31 (.tmp 3) (.tmp 22) rfl rfl rfl FZ.out FS.out FO.out ?_)
  refine (Q3.out _).mono ?_
  rintro _ w3 ⟨v3, rfl, x3, hv3⟩
  have B2 := Lib.hid (B2.out.ext x3)
  have X3 := Lib.hid (X2.out.trans x3)
  obtain ⟨a3, c3, rfl⟩ := rr_shapeN (WR.rr f4C_length hv3)
  rw [hM]
  clear x3 hv3 X2
  go_wp2_with fail
  refine (Q4.out _).mono ?_
  rintro _ w4 ⟨rfl, x4⟩
  have B2 := Lib.hid (B2.out.ext x4)
  have X4 := Lib.hid (X3.out.trans x4)
  clear x4 X3
  go_wp2_with fail
  refine (Q5.out _).mono ?_
  rintro _ w5 ⟨rfl, x5⟩
  have x5 := x5.alloc (.cells fB 31)
  have B2 := Lib.hid (B2.out.ext x5)
  have X5 := Lib.hid (X4.out.trans x5)
  clear x5 X4
  have hfA := HFA.out
  subst hfA
  clear HFA EB EQ FZ
  have u3 := Try.underlying3
  have ag3 := Try.isAgg3
  have z3 := Try.sizeOf3
  have u9 := Try.underlying9
  have ag9 := Try.isAgg9
  have z9 := Try.sizeOf9
  unfold f4C at *
  go_wp2_with (first
    | (refine wpList_store_new (cs' := fB) rfl 31 (.tmp 9) (.tmp 40) rfl rfl rfl GZ.out GS.out GO.out ?_)
    | (refine wpList_load_blk_g (by kernel_rfl) 31 (.tmp 3) rfl rfl B2.out Try.underlying31 rfl FS.out ?_))
  refine (Q6.out _).mono ?_
  rintro _ w6 ⟨rfl, rfl⟩
  go_wp2
  go_ret
  exact ⟨rfl, X5.out⟩
end Go.Proofs.Ythomdpdiknnahaa
