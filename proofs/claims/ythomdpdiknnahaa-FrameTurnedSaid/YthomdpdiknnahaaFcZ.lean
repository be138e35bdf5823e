/- crc: strings of bytes 00, and what the document makes of them. -/
import Derived.Test.YthomdpdiknnahaaFcR
namespace Go.Proofs.Ythomdpdiknnahaa
set_option linter.unusedVariables false
set_option linter.unusedSimpArgs false
open Go.RowKit

attribute [local go_sem] U8_fold U8_toNat u32_xor u32_and u8_xor8 u8_of_u32 u32_of_u8 u32_xor_u8 u32_mod256 u32_shr1 u32_shr8 u32_beq u32_and1 u32_beq1 u32_not signed_u32 signed_u8 xor_poly u32_tmod2 u32_mod2 u32_tmod256 u32_wrap u32_tdiv2 u32_tdiv256 u32_max_sub

theorem madeCells_one (z : Value) (n i : Nat) (h : i < n) : (madeCells #[z] n)[i]? = some z := by
  simp [madeCells, h, Nat.mod_one]

/-- so many bytes 00, as a string -/
def zeroStr (n : Nat) : ByteArray := ⟨(List.replicate n 0).toArray⟩
theorem zeroStr_bytes (n : Nat) : bytesOf (zeroStr n) = List.replicate n 0 := rfl
theorem zeroStr_size (n : Nat) : (zeroStr n).size = n := by simp [zeroStr, ByteArray.size]

theorem byte_info : (Try.prog.info? 5).map (fun i => (i.zero, i.size, i.bytes)) = some (some (.int .u8 0), 1, 1) := by kernel_rfl

theorem make_bytes (n : Nat) (hn : n ≤ 281474976710656) (w : World) :
    (Instr.makeSlice 43 (.int .i64 (n : Int)) (.int .i64 (n : Int))).run Try.prog w = .ok (.slice (some ⟨w.heap.size, 0, none⟩) n n) (w.alloc (.cells (madeCells #[.int .u8 0] n) 5)) :=
  run_make_row' _ _ _ 1 Try.underlying43 byte_info rfl .i64 .i64 n (by omega) (by omega) w

theorem conv_zeros (n : Nat) (w : World) (t : TypeId) :
    (convert 43 9 (.slice (some ⟨w.heap.size, 0, none⟩) n n)).run Try.prog (w.alloc (.cells (madeCells #[.int .u8 0] n) t)) = .ok (.string (zeroStr n)) (w.alloc (.cells (madeCells #[.int .u8 0] n) t)) := by
  rw [run_convert_bytes_arg (w.alloc (.cells (madeCells #[.int .u8 0] n) t)) _ 5 Try.underlying43 Try.underlying5 w.heap.size 0 n n (List.replicate n 0) (by simp) ?_ _ Try.underlying9]
  · congr 2
    simp [strOfNums, zeroStr]
  · intro i hi
    rw [World.cell?_alloc_new, Nat.zero_add, madeCells_one _ _ _ hi]
    simp [hi]

theorem zerosL_neg (n : Int) (h : n < 1) : zerosL n = [] := by
  unfold zerosL
  rw [show (min n 100000).toNat = 0 by omega]; rfl

end Go.Proofs.Ythomdpdiknnahaa
