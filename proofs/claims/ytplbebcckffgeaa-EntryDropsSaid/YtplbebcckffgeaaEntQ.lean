/- entries, headers, ranges: are they the same? -/
import Derived.Test.YtplbebcckffgeaaEntP
import Derived.Laws.StructEq
namespace Go.Proofs.Ytplbebcckffgeaa
set_option linter.unusedVariables false
set_option linter.unusedSimpArgs false
open Go.RowKit

theorem head_in (d : Nat) (a1 a2 a3 b1 b2 b3 : Int) (w : World) : (Op.equalIn (d + 2) 24 (.agg #[.int .i64 a1, .int .i64 a2, .int .i64 a3]) (.agg #[.int .i64 b1, .int .i64 b2, .int .i64 b3])).run Try.prog w = .ok (decide (a1 = b1) && (decide (a2 = b2) && decide (a3 = b3))) w := by
  have hS2 : Try.prog.underlying 24 = some (.struct (Try.prog.fieldsOf 24)) := by kernel_rfl
  have hp2 : Try.prog.stoodInHeld 24 = false := by kernel_rfl
  have u3 := Try.underlying3
  have ag3 := Try.isAgg3
  have z3 := Try.sizeOf3
  rw [show d + 2 = (d + 1) + 1 from rfl, run_equalIn_agg w (d + 1) 24 _ _ hS2 hp2]
  simp only [Program.fieldsOf, Try.underlying24]
  go_simp
  by_cases h1 : a1 = b1 <;> by_cases h2 : a2 = b2 <;> by_cases h3 : a3 = b3 <;> simp [h1, h2, h3]
theorem head_neq (a1 a2 a3 b1 b2 b3 : Int) (w : World) :
    (binOp .neq 24 (.agg #[.int .i64 a1, .int .i64 a2, .int .i64 a3]) (.agg #[.int .i64 b1, .int .i64 b2, .int .i64 b3])).run Try.prog w = .ok (.bool (!(decide (a1 = b1) && (decide (a2 = b2) && decide (a3 = b3))))) w := by
  rw [run_neq_struct, show (10000 : Nat) = 9998 + 2 from rfl, head_in]
  rfl
theorem range_in (d : Nat) (a1 a2 b1 b2 : Int) (w : World) : (Op.equalIn (d + 2) 43 (.agg #[.int .i64 a1, .int .i64 a2]) (.agg #[.int .i64 b1, .int .i64 b2])).run Try.prog w = .ok (decide (a1 = b1) && decide (a2 = b2)) w := by
  have hS2 : Try.prog.underlying 43 = some (.struct (Try.prog.fieldsOf 43)) := by kernel_rfl
  have hp2 : Try.prog.stoodInHeld 43 = false := by kernel_rfl
  have u3 := Try.underlying3
  have ag3 := Try.isAgg3
  have z3 := Try.sizeOf3
  rw [show d + 2 = (d + 1) + 1 from rfl, run_equalIn_agg w (d + 1) 43 _ _ hS2 hp2]
  simp only [Program.fieldsOf, Try.underlying43]
  go_simp
  by_cases h1 : a1 = b1 <;> by_cases h2 : a2 = b2 <;> simp [h1, h2]
theorem range_eql (a1 a2 b1 b2 : Int) (w : World) :
    (binOp .eql 43 (.agg #[.int .i64 a1, .int .i64 a2]) (.agg #[.int .i64 b1, .int .i64 b2])).run Try.prog w = .ok (.bool (decide (a1 = b1) && decide (a2 = b2))) w := by
  rw [run_eql_struct, show (10000 : Nat) = 9998 + 2 from rfl, range_in]
  rfl
theorem range_neq (a1 a2 b1 b2 : Int) (w : World) :
    (binOp .neq 43 (.agg #[.int .i64 a1, .int .i64 a2]) (.agg #[.int .i64 b1, .int .i64 b2])).run Try.prog w = .ok (.bool (!(decide (a1 = b1) && decide (a2 = b2)))) w := by
  rw [run_neq_struct, show (10000 : Nat) = 9998 + 2 from rfl, range_in]
  rfl
theorem e9_ext (a b : E9) : (a = b) ↔ a.id = b.id ∧ a.gen = b.gen ∧ a.fst = b.fst ∧ a.sld = b.sld ∧ a.cnt = b.cnt ∧ a.blk = b.blk ∧ a.early = b.early ∧ a.late = b.late ∧ a.bytes = b.bytes := by
  cases a; cases b; simp
theorem ent_neq (a b : E9) (w : World) :
    (binOp .neq 26 (.agg (entC a).toArray) (.agg (entC b).toArray)).run Try.prog w = .ok (.bool (!decide (a = b))) w := by
  have hS : Try.prog.underlying 26 = some (.struct (Try.prog.fieldsOf 26)) := by kernel_rfl
  have hp : Try.prog.stoodInHeld 26 = false := by kernel_rfl
  have u3 := Try.underlying3
  have ag3 := Try.isAgg3
  have z3 := Try.sizeOf3
  have u4 := Try.underlying4
  have ag4 := Try.isAgg4
  have z4 := Try.sizeOf4
  have ag5 := Try.isAgg24
  have z5 := Try.sizeOf24
  have hh := head_in 9997
  rw [show (9997 : Nat) + 2 = 9999 from rfl] at hh
  have hx : (decide (a = b)) = decide (a.id = b.id ∧ a.gen = b.gen ∧ a.fst = b.fst ∧ a.sld = b.sld ∧ a.cnt = b.cnt ∧ a.blk = b.blk ∧ a.early = b.early ∧ a.late = b.late ∧ a.bytes = b.bytes) := by
    simp only [e9_ext]
  rw [hx]
  clear hx
  obtain ⟨id, gen, fst, sld, cnt, blk, early, late, bytes⟩ := a
  obtain ⟨id', gen', fst', sld', cnt', blk', early', late', bytes'⟩ := b
  simp only [entC]
  rw [run_neq_struct, show (10000 : Nat) = 9999 + 1 from rfl, run_equalIn_agg w 9999 26 _ _ hS hp]
  simp only [Program.fieldsOf, Try.underlying26]
  go_simp
  by_cases h1 : id = id'
  · by_cases h2 : gen = gen'
    · by_cases h3 : fst = fst'
      · by_cases h4 : sld = sld'
        · by_cases h5 : cnt = cnt'
          · by_cases h6 : blk = blk'
            · by_cases h7 : early = early'
              · by_cases h8 : late = late'
                · by_cases h9 : bytes = bytes' <;> simp [h1, h2, h3, h4, h5, h6, h7, h8, h9]
                · simp [h1, h2, h3, h4, h5, h6, h7, h8]
              · simp [h1, h2, h3, h4, h5, h6, h7]
            · simp [h1, h2, h3, h4, h5, h6]
          · simp [h1, h2, h3, h4, h5]
        · simp [h1, h2, h3, h4]
      · simp [h1, h2, h3]
    · simp [h1, h2]
  · simp [h1]
end Go.Proofs.Ytplbebcckffgeaa
