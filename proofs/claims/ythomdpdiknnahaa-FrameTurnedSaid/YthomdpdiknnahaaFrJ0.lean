/- varvelaw16: awake. -/
import Derived.Test.YthomdpdiknnahaaFrI
import Derived.Laws.StructEq
namespace Go.Proofs.Ythomdpdiknnahaa
set_option linter.unusedVariables false
set_option linter.unusedSimpArgs false
open Go.RowKit
attribute [local go_sem] S_size S_toList S_append S_extract S_beq S_bne S_empty S_nil frame_zero

theorem frame_in (d : Nat) (a1 a3 a4 b1 b3 b4 : Int) (a2 b2 : List UInt8) (w : World) : (Op.equalIn (d + 2) 31 (.agg #[.int .i64 a1, .string (S a2), .int .i64 a3, .int .i64 a4]) (.agg #[.int .i64 b1, .string (S b2), .int .i64 b3, .int .i64 b4])).run Try.prog w = .ok (decide (a1 = b1) && (decide (a2 = b2) && (decide (a3 = b3) && decide (a4 = b4)))) w := by
  have hS2 : Try.prog.underlying 31 = some (.struct (Try.prog.fieldsOf 31)) := by kernel_rfl
  have hp2 : Try.prog.stoodInHeld 31 = false := by kernel_rfl
  have u3 := Try.underlying3
  have ag3 := Try.isAgg3
  have z3 := Try.sizeOf3
  have u9 := Try.underlying9
  have ag9 := Try.isAgg9
  have z9 := Try.sizeOf9
  rw [show d + 2 = (d + 1) + 1 from rfl, run_equalIn_agg w (d + 1) 31 _ _ hS2 hp2]
  simp only [Program.fieldsOf, Try.underlying31]
  go_simp
  by_cases h1 : a1 = b1 <;> by_cases h2 : a2 = b2 <;> by_cases h3 : a3 = b3 <;> by_cases h4 : a4 = b4 <;> simp [h1, h2, h3, h4]
theorem f4_eq_iff (a b : F4) : (a = b) ↔ a.kind = b.kind ∧ a.body = b.body ∧ a.at_ = b.at_ ∧ a.to = b.to := by
  cases a; cases b; simp
theorem frame_eql (a b : F4) (w : World) : (binOp .eql 31 (.agg (f4C a).toArray) (.agg (f4C b).toArray)).run Try.prog w = .ok (.bool (decide (a = b))) w := by
  rw [run_eql_struct, show (10000 : Nat) = 9998 + 2 from rfl]
  unfold f4C
  rw [frame_in]
  simp only [f4_eq_iff, Bool.decide_and]
  rfl
theorem frame_same (a : F4) (w : World) : (binOp .eql 31 (.agg (f4C a).toArray) (.agg (f4C a).toArray)).run Try.prog w = .ok (.bool true) w := by
  rw [frame_eql, decide_eq_true rfl]
end Go.Proofs.Ythomdpdiknnahaa
