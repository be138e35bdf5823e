/- Bytes 00, as a string. -/
import Derived.Test.YtfipfljiohdlhaaGreatStr
import Derived.Test.YtfipfljiohdlhaaGreatBuf
import Derived.Deep.OwnRows
namespace Go.Proofs.YtfipfljiohdlhaaGreat
set_option linter.unusedVariables false
set_option linter.unusedSimpArgs false
open Go.RowKit

theorem madeCells_one (z : Value) (n i : Nat) (h : i < n) : (madeCells #[z] n)[i]? = some z := by
  simp [madeCells, h, Nat.mod_one]

/-- so many bytes 00, as a string -/
def zeroStr (n : Nat) : ByteArray := ⟨(List.replicate n 0).toArray⟩
theorem zeroStr_S (n : Nat) : zeroStr n = S (List.replicate n 0) := rfl
theorem zeroStr_size (n : Nat) : (zeroStr n).size = n := by simp [zeroStr, ByteArray.size]

theorem byte_info : (Tryz.prog.info? 5).map (fun i => (i.zero, i.size, i.bytes)) = some (some (.int .u8 0), 1, 1) := by kernel_rfl

theorem make_bytes (n : Nat) (hn : n ≤ 281474976710656) (w : World) :
    (Instr.makeSlice 50 (.int .i64 (n : Int)) (.int .i64 (n : Int))).run Tryz.prog w = .ok (.slice (some ⟨w.heap.size, 0, none⟩) n n) (w.alloc (.cells (madeCells #[.int .u8 0] n) 5)) :=
  run_make_row' _ _ _ 1 Tryz.underlying50 byte_info rfl .i64 .i64 n (by omega) (by omega) w

theorem conv_zeros (n : Nat) (w : World) (t : TypeId) :
    (convert 50 9 (.slice (some ⟨w.heap.size, 0, none⟩) n n)).run Tryz.prog (w.alloc (.cells (madeCells #[.int .u8 0] n) t)) = .ok (.string (zeroStr n)) (w.alloc (.cells (madeCells #[.int .u8 0] n) t)) := by
  rw [run_convert_bytes_arg (w.alloc (.cells (madeCells #[.int .u8 0] n) t)) _ 5 Tryz.underlying50 Tryz.underlying5 w.heap.size 0 n n (List.replicate n 0) (by simp) ?_ _ Tryz.underlying9]
  · congr 2
    simp [strOfNums, zeroStr]
  · intro i hi
    rw [World.cell?_alloc_new, Nat.zero_add, madeCells_one _ _ _ hi]
    simp [hi]

end Go.Proofs.YtfipfljiohdlhaaGreat
