/- The bit operations of the model on bytes and words of 32 bits, said of Lean's own UInt8 and UInt32 behind two closed names, U8 and U32. -/
import Derived.Test.YtmjkfgpkohfmiaaGreatRows
import Derived.WalkKit
import Derived.WalkSpells
import Derived.WalkLawsBesides
import Derived.Laws.BitsAllLaws
namespace Go.Proofs.YtmjkfgpkohfmiaaGreat
set_option linter.unusedVariables false
set_option linter.unusedSimpArgs false
open Go.RowKit

/-- a byte's number -/
def U8 (b : UInt8) : Int := (b.toNat : Int)
/-- a word's number -/
def U32 (c : UInt32) : Int := (c.toNat : Int)
theorem U8_fold (b : UInt8) : (b.toNat : Int) = U8 b := rfl
/-- a byte as a place -/
def B8 (b : UInt8) : Nat := b.toNat
theorem B8_lt (b : UInt8) : B8 b < 256 := b.toNat_lt
theorem U8_toNat (b : UInt8) : (U8 b).toNat = B8 b := rfl
theorem signed_u32 : IntKind.signed .u32 = false := rfl
theorem signed_u8 : IntKind.signed .u8 = false := rfl
theorem U8_nonneg (b : UInt8) : 0 ≤ U8 b := Int.natCast_nonneg _
theorem U8_lt (b : UInt8) : U8 b < 256 := by have := b.toNat_lt; unfold U8; omega
theorem U32_nonneg (b : UInt32) : 0 ≤ U32 b := Int.natCast_nonneg _
theorem U32_lt (b : UInt32) : U32 b < 4294967296 := by have := b.toNat_lt; unfold U32; omega
theorem U32_toNat (b : UInt32) : (U32 b).toNat = b.toNat := rfl

theorem u32_xor (a b : UInt32) : bits .xor .u32 (U32 a) (U32 b) = U32 (a ^^^ b) := by
  unfold U32; rw [u32_xor_nat _ _ a.toNat_lt b.toNat_lt, UInt32.toNat_xor]
theorem u32_and (a b : UInt32) : bits .and .u32 (U32 a) (U32 b) = U32 (a &&& b) := by
  unfold U32; rw [u32_and_nat _ _ a.toNat_lt b.toNat_lt, UInt32.toNat_and]
theorem u32_or (a b : UInt32) : bits .or .u32 (U32 a) (U32 b) = U32 (a ||| b) := by
  unfold U32; rw [u32_or_nat _ _ a.toNat_lt b.toNat_lt, UInt32.toNat_or]
theorem u8_xor8 (a b : UInt8) : bits .xor .u8 (U8 a) (U8 b) = U8 (a ^^^ b) := by
  unfold U8; rw [u8_xor_nat _ _ a.toNat_lt b.toNat_lt, UInt8.toNat_xor]
theorem u8_and8 (a b : UInt8) : bits .and .u8 (U8 a) (U8 b) = U8 (a &&& b) := by
  unfold U8; rw [u8_and_nat _ _ a.toNat_lt b.toNat_lt, UInt8.toNat_and]
theorem u8_or8 (a b : UInt8) : bits .or .u8 (U8 a) (U8 b) = U8 (a ||| b) := by
  unfold U8; rw [u8_or_nat _ _ a.toNat_lt b.toNat_lt, UInt8.toNat_or]
theorem u8_of_u32 (c : UInt32) : IntKind.u8.wrap (U32 c) = U8 c.toUInt8 := by
  unfold U8 U32; rw [IntKind.wrap_u8, UInt32.toNat_toUInt8]; omega
theorem u32_of_u8 (b : UInt8) : IntKind.u32.wrap (U8 b) = U8 b := by
  have := b.toNat_lt
  unfold U8; rw [IntKind.wrap_u32]; omega
theorem u32_xor_u8 (a b : UInt8) : bits .xor .u32 (U8 a) (U8 b) = U8 (a ^^^ b) := by
  have ha := a.toNat_lt
  have hb := b.toNat_lt
  unfold U8; rw [u32_xor_nat _ _ (by omega) (by omega), UInt8.toNat_xor]
theorem u32_mod256 (c : UInt32) : U32 c % (256 : Int) = U8 c.toUInt8 := by
  unfold U8 U32; rw [UInt32.toNat_toUInt8]; omega
theorem u32_shr_lit (c : UInt32) (k : Nat) (hk : k < 32) : U32 c / ((2 ^ k : Nat) : Int) = U32 (c >>> (UInt32.ofNat k)) := by
  have e : (UInt32.ofNat k).toNat % 32 = k := by rw [UInt32.toNat_ofNat']; omega
  unfold U32
  rw [UInt32.toNat_shiftRight, e, Nat.shiftRight_eq_div_pow]
  rfl
theorem u32_shr1 (c : UInt32) : U32 c / (2 : Int) = U32 (c >>> 1) := u32_shr_lit c 1 (by omega)
theorem u32_shr8 (c : UInt32) : U32 c / (256 : Int) = U32 (c >>> 8) := u32_shr_lit c 8 (by omega)
theorem u32_tmod2 (c : UInt32) : (U32 c).tmod 2 = U32 (c &&& 1) := by
  unfold U32
  rw [Int.tmod_eq_emod_of_nonneg (Int.natCast_nonneg _), UInt32.toNat_and]
  have : (1 : UInt32).toNat = 1 := rfl
  rw [this, Nat.and_one_is_mod]; rfl
theorem u32_mod2 (c : UInt32) : U32 c % (2 : Int) = U32 (c &&& 1) := by
  unfold U32
  rw [UInt32.toNat_and]
  have : (1 : UInt32).toNat = 1 := rfl
  rw [this, Nat.and_one_is_mod]; rfl
theorem u32_tmod256 (c : UInt32) : (U32 c).tmod 256 = U8 c.toUInt8 := by
  rw [← u32_mod256, Int.tmod_eq_emod_of_nonneg (U32_nonneg c)]
theorem u32_wrap (c : UInt32) : IntKind.u32.wrap (U32 c) = U32 c := by
  have := c.toNat_lt
  unfold U32; rw [IntKind.wrap_u32]; omega
theorem u32_tdiv2 (c : UInt32) : (U32 c).tdiv 2 = U32 (c >>> 1) := by
  rw [Int.tdiv_eq_ediv_of_nonneg (U32_nonneg c), u32_shr1]
theorem u32_tdiv256 (c : UInt32) : (U32 c).tdiv 256 = U32 (c >>> 8) := by
  rw [Int.tdiv_eq_ediv_of_nonneg (U32_nonneg c), u32_shr8]
theorem u32_max_sub (c : UInt32) : (4294967295 : Int) - U32 c = U32 (~~~ c) := by
  have := c.toNat_lt
  unfold U32; rw [UInt32.toNat_not, UInt32.size]; omega
theorem u32_beq (a b : UInt32) : (U32 a == U32 b) = (a == b) := by
  rw [Bool.eq_iff_iff, beq_iff_eq, beq_iff_eq]; unfold U32
  rw [Int.ofNat_inj, UInt32.toNat_inj]
theorem u8_beq (a b : UInt8) : (U8 a == U8 b) = (a == b) := by
  rw [Bool.eq_iff_iff, beq_iff_eq, beq_iff_eq]; unfold U8
  rw [Int.ofNat_inj, UInt8.toNat_inj]
theorem u32_and1 (c : UInt32) : bits .and .u32 (U32 c) 1 = U32 (c &&& 1) := u32_and c 1
theorem u32_beq1 (c : UInt32) : (U32 c == 1) = (c == 1) := u32_beq c 1
theorem u32_not (c : UInt32) : bits .xor .u32 IntKind.u32.max (U32 c) = U32 (~~~ c) := by
  show bits .xor .u32 4294967295 (U32 c) = U32 (~~~ c)
  have h := u32_xor 4294967295 c
  have e : U32 4294967295 = 4294967295 := rfl
  rw [e] at h
  rw [h]
  congr 1
end Go.Proofs.YtmjkfgpkohfmiaaGreat
