/- varvelaw39: awake. -/
import Derived.Test.YtlhjbfckcfeikaaFmR
import Derived.Test.YtlhjbfckcfeikaaSameR
import Derived.Test.YtlhjbfckcfeikaaApp3
import Derived.Laws.StructEq
namespace Go.Proofs.Ytlhjbfckcfeikaa
set_option linter.unusedVariables false
set_option linter.unusedSimpArgs false
open Go.RowKit

theorem range_in (d : Nat) (a1 a2 b1 b2 : Int) (w : World) : (Op.equalIn (d + 2) 23 (.agg #[.int .i64 a1, .int .i64 a2]) (.agg #[.int .i64 b1, .int .i64 b2])).run Try.prog w = .ok (decide (a1 = b1) && decide (a2 = b2)) w := by
  have hS2 : Try.prog.underlying 23 = some (.struct (Try.prog.fieldsOf 23)) := by kernel_rfl
  have hp2 : Try.prog.stoodInHeld 23 = false := by kernel_rfl
  have u3 := Try.underlying3
  have ag3 := Try.isAgg3
  have z3 := Try.sizeOf3
  rw [show d + 2 = (d + 1) + 1 from rfl, run_equalIn_agg w (d + 1) 23 _ _ hS2 hp2]
  simp only [Program.fieldsOf, Try.underlying23]
  go_simp
  by_cases h1 : a1 = b1 <;> by_cases h2 : a2 = b2 <;> simp [h1, h2]
theorem range_eql (a1 a2 b1 b2 : Int) (w : World) :
    (binOp .eql 23 (.agg #[.int .i64 a1, .int .i64 a2]) (.agg #[.int .i64 b1, .int .i64 b2])).run Try.prog w = .ok (.bool (decide (a1 = b1) && decide (a2 = b2))) w := by
  rw [run_eql_struct, show (10000 : Nat) = 9998 + 2 from rfl, range_in]
  rfl
theorem range_neq (a1 a2 b1 b2 : Int) (w : World) :
    (binOp .neq 23 (.agg #[.int .i64 a1, .int .i64 a2]) (.agg #[.int .i64 b1, .int .i64 b2])).run Try.prog w = .ok (.bool (!(decide (a1 = b1) && decide (a2 = b2)))) w := by
  rw [run_neq_struct, show (10000 : Nat) = 9998 + 2 from rfl, range_in]
  rfl
theorem run_bs2i (x y : Int) (w : World) : (Instr.buildSlice 31 2 #[(0, .int .i64 x), (1, .int .i64 y)]).run Try.prog w = .ok (.slice (some ⟨w.heap.size, 0, none⟩) 2 2) (w.alloc (.cells #[.int .i64 x, .int .i64 y] 3)) := by kernel_rfl
def anL : List UInt8 := [97, 110, 110, 98, 97, 97]
theorem an_may : mayP anL (4 : Int) = true := by decide +kernel
theorem an_ok : okI anL 4 = true := by decide +kernel
theorem an_rows : rwR anL 4 [97, 110] = (2, 3) := by decide +kernel
theorem an_a : (plcL (txtN anL 4) [97]).length = 3 := by decide +kernel
theorem an_x : (plcL (txtN anL 4) [120]).length = 0 := by decide +kernel
theorem an_plc : plcL (txtN anL 4) [97, 110] = [1, 3] := by decide +kernel
theorem an_txt : partL (txtN anL 4) 2 3 = [110, 97, 110] := by decide +kernel
theorem an_bk : bkR anL 4 1 3 110 = (5, 6) := by decide +kernel
theorem ab_no : ¬ (mayP [97, 98] 1 = true ∧ okI [97, 98] (1 : Int).toNat = true) := by decide +kernel

set_option maxRecDepth 20000 in
set_option maxHeartbeats 16000000 in
theorem awake39_any (w : World) : Calls Try.prog 7 #[] w fun e w' => e = .returned (.bool true) ∧ Ext w w' := by
  have QN := Lib.hid (show ∀ w, Calls Try.prog 8 #[.string { data := #[97, 110, 110, 98, 97, 97] }, .int .i64 4] w fun e w' => ∃ v, e = .returned (.tuple #[v, .int .i64 0]) ∧ Ext w w' ∧ IX w' v anL 4 from fun w => fnew_ok anL 4 w (by decide) an_may an_ok)
  have QM := Lib.hid (show ∀ w, Calls Try.prog 8 #[.string { data := #[97, 98] }, .int .i64 1] w fun e w' => e = .returned (.tuple #[.pointer none, .int .i64 130]) ∧ Ext w w' from fun w => fnew_no [97, 98] 1 w (by decide) ab_no)
  have QR := Lib.hid (show ∀ v w, IX w v anL 4 → Calls Try.prog 10 #[v, .string { data := #[97, 110] }] w fun e w' => e = .returned (.agg #[.int .i64 2, .int .i64 3]) ∧ Ext w w' from fun v w h => by
    have := rows_any anL 4 v [97, 110] w (by decide) (by decide) an_ok (by decide) h
    rw [an_rows] at this; exact this)
  have QC := Lib.hid (show ∀ v w, IX w v anL 4 → Calls Try.prog 12 #[v, .string { data := #[97] }] w fun e w' => e = .returned (.int .i64 3) ∧ Ext w w' from fun v w h => by
    have := count_places anL 4 v [97] w (by decide) (by decide) an_ok (by decide) h
    rw [an_a] at this; exact this)
  have QX := Lib.hid (show ∀ v w, IX w v anL 4 → Calls Try.prog 12 #[v, .string { data := #[120] }] w fun e w' => e = .returned (.int .i64 0) ∧ Ext w w' from fun v w h => by
    have := count_places anL 4 v [120] w (by decide) (by decide) an_ok (by decide) h
    rw [an_x] at this; exact this)
  have QP := Lib.hid (show ∀ v w, IX w v anL 4 → Calls Try.prog 15 #[v, .string { data := #[97, 110] }] w fun e w' => ∃ u, e = .returned u ∧ Ext w w' ∧ RI w' u [1, 3] from fun v w h => by
    have := places_any anL 4 v [97, 110] w (by decide) (by decide) an_ok (by decide) h
    rw [an_plc] at this; exact this)
  have QT := Lib.hid (show ∀ v w, IX w v anL 4 → Calls Try.prog 16 #[v, .int .i64 2, .int .i64 3] w fun e w' => e = .returned (.string { data := #[110, 97, 110] }) ∧ Ext w w' from fun v w h => by
    have := text_any anL 4 v 2 3 w (by decide) an_ok (by decide) h
    rw [an_txt] at this; exact this)
  have QB := Lib.hid (show ∀ v w, IX w v anL 4 → Calls Try.prog 18 #[v, .agg #[.int .i64 1, .int .i64 3], .int .u8 110] w fun e w' => e = .returned (.agg #[.int .i64 5, .int .i64 6]) ∧ Ext w w' from fun v w h => by
    have := back_any anL 4 v 1 3 110 w (by decide) an_ok (by decide) h
    rw [an_bk] at this; exact this)
  have QS := Lib.hid (show ∀ u v w, RI w u [1, 3] → RI w v [1, 3] → Calls Try.prog 14 #[u, v] w fun e w' => e = .returned (.bool true) ∧ Ext w w' from fun u v w h1 h2 => by
    have := sameR_any [1, 3] [1, 3] u v w h1 h2 (by decide) (by decide)
    exact this)
  have he1 := fun w => range_eql 2 3 2 3 w
  have he2 := fun w => range_eql 5 6 5 6 w
  rw [decide_eq_true rfl, decide_eq_true rfl] at he1 he2
  go_enter Try.func7, Try.ntmps7
  go_wp2_with fail
  refine (QN.out _).mono ?_
  rintro _ w1 ⟨v, rfl, x1, i1⟩
  have X1 := Lib.hid x1
  have I1 := Lib.hid i1
  clear x1 i1
  go_wp2_with fail
  refine (QM.out _).mono ?_
  rintro _ w2 ⟨rfl, x2⟩
  have X2 := Lib.hid (X1.out.trans x2)
  have I2 := Lib.hid (I1.out.ext x2)
  clear x2 X1 I1
  go_wp2_with fail
  refine (QR.out _ _ I2.out).mono ?_
  rintro _ w3 ⟨rfl, x3⟩
  have X3 := Lib.hid (X2.out.trans x3)
  have I3 := Lib.hid (I2.out.ext x3)
  clear x3 X2 I2
  go_wp2_with fail
  refine (QC.out _ _ I3.out).mono ?_
  rintro _ w4 ⟨rfl, x4⟩
  have X4 := Lib.hid (X3.out.trans x4)
  have I4 := Lib.hid (I3.out.ext x4)
  clear x4 X3 I3
  go_wp2_with fail
  refine (QX.out _ _ I4.out).mono ?_
  rintro _ w5 ⟨rfl, x5⟩
  have X5 := Lib.hid (X4.out.trans x5)
  have I5 := Lib.hid (I4.out.ext x5)
  clear x5 X4 I4
  go_wp2_with fail
  refine (QP.out _ _ I5.out).mono ?_
  rintro _ w6 ⟨u6, rfl, x6, r6⟩
  have X6 := Lib.hid (X5.out.trans x6)
  have I6 := Lib.hid (I5.out.ext x6)
  have R6 := Lib.hid r6
  clear x6 X5 I5 r6
  go_wp2_with (refine wpList_bs (vs := #[(0, .int .i64 1), (1, .int .i64 3)]) rfl 31 2 _ rfl rfl (run_bs2i _ _ _) ?_)
  have L6 := Lib.hid (IW.lit w6 [1, 3] (by decide) 2 rfl #[.int .i64 1, .int .i64 3] rfl).ri
  have E6 := Lib.hid ((Ext.refl w6).alloc (.cells #[.int .i64 1, .int .i64 3] 3))
  refine (QS.out _ _ _ (R6.out.ext E6.out) L6.out).mono ?_
  rintro _ w7 ⟨rfl, x7⟩
  have X7 := Lib.hid ((X6.out.trans E6.out).trans x7)
  have I7 := Lib.hid ((I6.out.ext E6.out).ext x7)
  clear x7 X6 I6 R6 L6 E6
  go_wp2_with fail
  refine (QT.out _ _ I7.out).mono ?_
  rintro _ w8 ⟨rfl, x8⟩
  have X8 := Lib.hid (X7.out.trans x8)
  have I8 := Lib.hid (I7.out.ext x8)
  clear x8 X7 I7
  go_wp2_with fail
  refine (QB.out _ _ I8.out).mono ?_
  rintro _ w9 ⟨rfl, x9⟩
  have X9 := Lib.hid (X8.out.trans x9)
  clear x9 X8 I8
  go_wp2
  go_ret
  exact ⟨rfl, X9.out⟩
end Go.Proofs.Ytlhjbfckcfeikaa
