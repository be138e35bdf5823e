/- Words of 64 bits behind a closed name. -/
import Derived.Test.YthomdpdiknnahaaBits
namespace Go.Proofs.Ythomdpdiknnahaa
set_option linter.unusedVariables false
set_option linter.unusedSimpArgs false
open Go.RowKit
/-- a word's number -/
def U64 (c : UInt64) : Int := (c.toNat : Int)
theorem U64_nonneg (b : UInt64) : 0 ≤ U64 b := Int.natCast_nonneg _
theorem U64_lt (b : UInt64) : U64 b < 18446744073709551616 := by have := b.toNat_lt; unfold U64; omega
theorem u64_or64 (a b : UInt64) : bits .or .u64 (U64 a) (U64 b) = U64 (a ||| b) := by
  unfold U64; rw [u64_or_nat _ _ a.toNat_lt b.toNat_lt, UInt64.toNat_or]
theorem u64_and64 (a b : UInt64) : bits .and .u64 (U64 a) (U64 b) = U64 (a &&& b) := by
  unfold U64; rw [u64_and_nat _ _ a.toNat_lt b.toNat_lt, UInt64.toNat_and]
theorem u64_beq64 (a b : UInt64) : (U64 a == U64 b) = (a == b) := by
  rw [Bool.eq_iff_iff, beq_iff_eq, beq_iff_eq]
  unfold U64
  rw [Int.natCast_inj, UInt64.toNat_inj]
theorem u64_wrap64 (a : UInt64) : IntKind.u64.wrap (U64 a) = U64 a := by
  have := a.toNat_lt
  unfold U64; rw [IntKind.wrap_u64]; omega
end Go.Proofs.Ythomdpdiknnahaa
