/- min, max of integers. -/
import Derived.Test.YtmjkfgpkohfmiaaGreatStr
import Derived.WalkKit
namespace Go.Proofs.YtmjkfgpkohfmiaaGreat
set_option linter.unusedVariables false
set_option linter.unusedSimpArgs false
open Go.RowKit
theorem max2_run (a b m : Int) (h : m = max a b) (w : World) : (Builtin.max_ #[3, 3] 3 #[.int .i64 a, .int .i64 b]).run Tryz.prog w = .ok (.int .i64 m) w := by
  have : (Builtin.max_ #[3, 3] 3 #[.int .i64 a, .int .i64 b]).run Tryz.prog w = .ok (.int .i64 (if a < b then b else a)) w := by
    simp [Builtin.max_, Builtin.max2]
  rw [this, h]
  congr 2
  split <;> omega
theorem min2_run (a b m : Int) (h : m = min a b) (w : World) : (Builtin.min_ #[3, 3] 3 #[.int .i64 a, .int .i64 b]).run Tryz.prog w = .ok (.int .i64 m) w := by
  have : (Builtin.min_ #[3, 3] 3 #[.int .i64 a, .int .i64 b]).run Tryz.prog w = .ok (.int .i64 (if b < a then b else a)) w := by
    simp [Builtin.min_, Builtin.min2]
  rw [this, h]
  congr 2
  split <;> omega
end Go.Proofs.YtmjkfgpkohfmiaaGreat
